/-
  A row of points in a block of the call's own: known whole, written point by point. No program in sight.
-/
import Derived.Test.YtnomiefjefopbaaBase
import Derived.Laws.MakeOwn
namespace Go.Proofs.Ytnomiefjefopbaa
open Go.RowKit

/-- Block g is a row of cells of type T, not frozen, that begins with the points of l. -/
def OwnP (w : World) (g : Nat) (T : TypeId) (l : List (Int × Int)) : Prop :=
  ∃ cs : Array Value, w.heap[g]? = some (.cells cs T (0, 0)) ∧ l.length * 2 ≤ cs.size ∧ ∀ k, k < l.length → cs[k * 2]? = some (.int .i64 (gx l k)) ∧ cs[k * 2 + 1]? = some (.int .i64 (gy l k))

section
variable {w w' : World} {g : Nat} {T : TypeId} {l : List (Int × Int)}

theorem OwnP.lt (h : OwnP w g T l) : g < w.heap.size := by
  obtain ⟨cs, h1, _⟩ := h
  rcases Nat.lt_or_ge g w.heap.size with h2 | h2
  · exact h2
  · rw [Array.getElem?_eq_none h2] at h1; cases h1

theorem OwnP.cellx (h : OwnP w g T l) {k : Nat} (hk : k < l.length) : w.cell? ⟨g, k * 2, none⟩ = some (.int .i64 (gx l k)) := by
  obtain ⟨cs, h1, _, h3⟩ := h
  simp [World.cell?, h1, (h3 k hk).1]

theorem OwnP.celly (h : OwnP w g T l) {k : Nat} (hk : k < l.length) : w.cell? ⟨g, k * 2 + 1, none⟩ = some (.int .i64 (gy l k)) := by
  obtain ⟨cs, h1, _, h3⟩ := h
  simp [World.cell?, h1, (h3 k hk).2]

theorem OwnP.ptsAt (h : OwnP w g T l) : PtsAt w g 0 l := fun k hk => by
  rw [Nat.zero_add]; exact ⟨h.cellx hk, h.celly hk⟩

theorem OwnP.frozen (h : OwnP w g T l) (o : Nat) : w.frozen? ⟨g, o, none⟩ = false := by
  obtain ⟨cs, h1, _⟩ := h
  simp [World.frozen?, h1]

theorem OwnP.same (h : OwnP w g T l) (hb : w'.heap[g]? = w.heap[g]?) : OwnP w' g T l := by
  obtain ⟨cs, h1, h2⟩ := h
  exact ⟨cs, hb.trans h1, h2⟩

theorem OwnP.ext (h : OwnP w g T l) (hx : Ext w w') : OwnP w' g T l := h.same (hx.below.block g h.lt)
theorem OwnP.alloc (h : OwnP w g T l) (o : Obj) : OwnP (w.alloc o) g T l := h.ext ((Ext.refl w).alloc o)
theorem OwnP.grown (h : OwnP w g T l) {r : Option Nat} (hg : w.grownBy w' r) (hr : r ≠ some g) : OwnP w' g T l := h.same (hg.block g h.lt (fun e => hr e.symm))

theorem gx_set (l : List (Int × Int)) (k j : Nat) (x y : Int) (hk : k < l.length) : gx (l.set k (x, y)) j = if j = k then x else gx l j := by
  unfold gx
  simp only [List.getD_eq_getElem?_getD, List.getElem?_set]
  by_cases e : k = j
  · subst e; simp [hk]
  · rw [if_neg e, if_neg (fun h => e h.symm)]

theorem gy_set (l : List (Int × Int)) (k j : Nat) (x y : Int) (hk : k < l.length) : gy (l.set k (x, y)) j = if j = k then y else gy l j := by
  unfold gy
  simp only [List.getD_eq_getElem?_getD, List.getElem?_set]
  by_cases e : k = j
  · subst e; simp [hk]
  · rw [if_neg e, if_neg (fun h => e h.symm)]

theorem OwnP.setX (h : OwnP w g T l) {k : Nat} (hk : k < l.length) (x : Int) : OwnP (w.setCell ⟨g, k * 2, none⟩ (.int .i64 x)) g T (l.set k (x, gy l k)) := by
  obtain ⟨cs, h1, h2, h3⟩ := h
  refine ⟨cs.setIfInBounds (k * 2) (.int .i64 x), by simp [World.setCell, Array.getElem?_modify, h1], by simpa using h2, fun j hj => ?_⟩
  rw [List.length_set] at hj
  rw [gx_set l k j _ _ hk, gy_set l k j _ _ hk, Array.getElem?_setIfInBounds, Array.getElem?_setIfInBounds]
  obtain ⟨a1, a2⟩ := h3 j hj
  constructor
  · by_cases e : j = k
    · subst e; rw [if_pos rfl, if_pos (by omega), if_pos rfl]
    · rw [if_neg (by omega), if_neg e]; exact a1
  · rw [if_neg (by omega)]
    by_cases e : j = k
    · subst e; rw [if_pos rfl]; exact a2
    · rw [if_neg e]; exact a2

theorem OwnP.setY (h : OwnP w g T l) {k : Nat} (hk : k < l.length) (y : Int) : OwnP (w.setCell ⟨g, k * 2 + 1, none⟩ (.int .i64 y)) g T (l.set k (gx l k, y)) := by
  obtain ⟨cs, h1, h2, h3⟩ := h
  refine ⟨cs.setIfInBounds (k * 2 + 1) (.int .i64 y), by simp [World.setCell, Array.getElem?_modify, h1], by simpa using h2, fun j hj => ?_⟩
  rw [List.length_set] at hj
  rw [gx_set l k j _ _ hk, gy_set l k j _ _ hk, Array.getElem?_setIfInBounds, Array.getElem?_setIfInBounds]
  obtain ⟨a1, a2⟩ := h3 j hj
  constructor
  · rw [if_neg (by omega)]
    by_cases e : j = k
    · subst e; rw [if_pos rfl]; exact a1
    · rw [if_neg e]; exact a1
  · by_cases e : j = k
    · subst e; rw [if_pos rfl, if_pos (by omega), if_pos rfl]
    · rw [if_neg (by omega), if_neg e]; exact a2

theorem set_set_xy (l : List (Int × Int)) (k : Nat) (x y : Int) (hk : k < l.length) : (l.set k (x, gy l k)).set k (gx (l.set k (x, gy l k)) k, y) = l.set k (x, y) := by
  rw [List.set_set, gx_set l k k _ _ hk, if_pos rfl]

theorem OwnP.setXY (h : OwnP w g T l) {k : Nat} (hk : k < l.length) (x y : Int) : OwnP ((w.setCell ⟨g, k * 2, none⟩ (.int .i64 x)).setCell ⟨g, k * 2 + 1, none⟩ (.int .i64 y)) g T (l.set k (x, y)) := by
  have := (h.setX hk x).setY (k := k) (by simpa using hk) y
  rwa [set_set_xy l k x y hk] at this
end

/-- a new row of n zero points -/
theorem ownP_made (w : World) (T : TypeId) (n : Nat) : OwnP (w.alloc (.cells (madeCells #[.int .i64 0, .int .i64 0] (n * 2)) T)) w.heap.size T (List.replicate n (0, 0)) := by
  refine ⟨madeCells #[.int .i64 0, .int .i64 0] (n * 2), heap_alloc_new w _, by simp [size_madeCells], fun k hk => ?_⟩
  rw [List.length_replicate] at hk
  have e1 : gx (List.replicate n (0, 0)) k = 0 := by simp [gx, List.getD_eq_getElem?_getD, hk]
  have e2 : gy (List.replicate n (0, 0)) k = 0 := by simp [gy, List.getD_eq_getElem?_getD, hk]
  rw [e1, e2]
  have z1 : k * 2 % 2 = 0 := by omega
  have z2 : (k * 2 + 1) % 2 = 1 := by omega
  unfold madeCells
  constructor
  · simp [show k * 2 < n * 2 from by omega, z1]
  · simp [show k * 2 + 1 < n * 2 from by omega, z2]

/-- The slice '.slice A l.length c' owns the points of l: its block lies in [lo, hi). -/
def OwnS (w : World) (lo hi : Nat) (T : TypeId) (A : Option Addr) (l : List (Int × Int)) : Prop :=
  0 < l.length → ∃ g, A = some ⟨g, 0, none⟩ ∧ lo ≤ g ∧ g < hi ∧ OwnP w g T l

section
variable {w w' : World} {lo hi lo' hi' : Nat} {T : TypeId} {A : Option Addr} {l : List (Int × Int)}
theorem OwnS.pts (h : OwnS w lo hi T A l) : Pts w lo hi A l := fun hl =>
  let ⟨g, e, h1, h2, h3⟩ := h hl
  ⟨g, 0, e, h1, h2, h3.ptsAt⟩
theorem OwnS.r (h : OwnS w lo hi T A l) (hh : hi ≤ w.heap.size) : RPts w A l := h.pts.r hh
theorem OwnS.ext (h : OwnS w lo hi T A l) (hx : Ext w w') : OwnS w' lo hi T A l := fun hl =>
  let ⟨g, e, h1, h2, h3⟩ := h hl
  ⟨g, e, h1, h2, h3.ext hx⟩
theorem OwnS.more (h : OwnS w lo hi T A l) (h1 : lo' ≤ lo) (h2 : hi ≤ hi') : OwnS w lo' hi' T A l := fun hl =>
  let ⟨g, e, a1, a2, h3⟩ := h hl
  ⟨g, e, by omega, by omega, h3⟩
theorem OwnS.set_below (h : OwnS w lo hi T A l) {p : Addr} (hp : p.block < lo) (u : Value) : OwnS (w.setCell p u) lo hi T A l := fun hl =>
  let ⟨g, e, a1, a2, h3⟩ := h hl
  ⟨g, e, a1, a2, h3.same (Below.heap_setCell _ _ _ _ (by omega))⟩
theorem size_setCell (w : World) (p : Addr) (u : Value) : (w.setCell p u).heap.size = w.heap.size := by simp [World.setCell]
theorem OwnS.nil : OwnS w lo hi T A [] := fun h => absurd h (by simp)
theorem OwnS.hi_size (h : OwnS w lo hi T A l) : OwnS w lo w.heap.size T A l := fun hl =>
  let ⟨g, e, a1, _, h3⟩ := h hl
  ⟨g, e, a1, h3.lt, h3⟩
/-- a change to one block outside of the range -/
theorem OwnS.grown (h : OwnS w lo hi T A l) {g : Nat} (hg : w.grownBy w' (some g)) (hr : g < lo ∨ hi ≤ g) : OwnS w' lo hi T A l := fun hl =>
  let ⟨g', e, a1, a2, h3⟩ := h hl
  ⟨g', e, a1, a2, h3.grown hg (fun e => by injection e with e; omega)⟩
theorem Pts.grown (h : Pts w lo hi A l) {g : Nat} (hg : w.grownBy w' (some g)) (hr : g < lo ∨ hi ≤ g) (hh : hi ≤ w.heap.size) : Pts w' lo hi A l := fun hl =>
  let ⟨b, off, e, a1, a2, h3⟩ := h hl
  ⟨b, off, e, a1, a2, fun k hk => ⟨(World.cell?_of_block (w := w) (a := ⟨b, off + k * 2, none⟩) (hg.block b (by omega) (fun e => by injection e with e; omega))).trans (h3 k hk).1,
    (World.cell?_of_block (w := w) (a := ⟨b, off + k * 2 + 1, none⟩) (hg.block b (by omega) (fun e => by injection e with e; omega))).trans (h3 k hk).2⟩⟩
end

theorem run_makeRow {P : Program} (t e : TypeId) (i : TypeInfo) (z : Value) (ht : P.underlying t = some (.slice e)) (hi : P.info? e = some i) (hz : i.zero = some z)
    (kl kc : IntKind) (n c : Nat) (hnc : n ≤ c) (hbytes : i.bytes * c ≤ 281474976710656) (h63 : c ≤ 9223372036854775807) (w : World) :
    (Instr.makeSlice t (.int kl (n : Int)) (.int kc (c : Int))).run P w = .ok (.slice (some ⟨w.heap.size, 0, none⟩) n c) (w.alloc (.cells (madeCells z.cells (c * i.size)) e)) := by
  have hb : (i.bytes : Int) * (c : Int) ≤ 281474976710656 := by
    have h : ((i.bytes * c : Nat) : Int) ≤ 281474976710656 := by omega
    rwa [Int.natCast_mul] at h
  have hr := run_make (P := P) w t e i z ht hi hz kl kc n c (by omega) (by omega) hb (by omega)
  simp only [Int.toNat_natCast] at hr
  exact hr

end Go.Proofs.Ytnomiefjefopbaa
