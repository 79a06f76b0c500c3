/-
  Memory words and opening lemmas for the seat's proofs: a slice of points that reads as a list; arguments that are points, walls, rooms and slices of points, opened to cells. No program in sight.
-/
import Derived.WalkKit
import Derived.ProofKit
import Derived.Lib.SmallJoins
import Derived.Deep.Slices
import Derived.Deep.Fields
import Derived.IntWalk
namespace Go.Proofs.Ytnomiefjefopbaa
open Go.RowKit Go.ChangeShapes Go.WideShapes Go.Joins Go.Deep

theorem hide {p : Prop} (h : p) : Hid p := h

theorem bcell {B : Nat} {W w1 : World} (hb : Below B W w1) : (∀ b o, b < B → w1.cell? ⟨b, o, none⟩ = W.cell? ⟨b, o, none⟩) :=
  fun b o h => hb.cell (p := ⟨b, o, none⟩) h

/-- Nothing that was there has turned; blocks may have come. -/
def Ext (w w' : World) : Prop := Below w.heap.size w w'
theorem Ext.refl (w : World) : Ext w w := Below.refl _ _
theorem Ext.size {a b : World} (h : Ext a b) : a.heap.size ≤ b.heap.size := Below.size h
theorem Ext.trans {a b c : World} (h : Ext a b) (k : Ext b c) : Ext a c := Below.trans h (Below.mono k h.size)
theorem Ext.alloc {a b : World} (h : Ext a b) (o : Obj) : Ext a (b.alloc o) := Below.alloc h h.size o
theorem Ext.drew {a b : World} (h : Ext a b) : Ext a b.drew := Below.drew h
theorem Ext.drewN {a b : World} (h : Ext a b) (n : Nat) : Ext a (b.drewN n) := by
  have k : Below a.heap.size a b := h
  exact ⟨k.os, k.tape, k.output, k.size, k.block⟩
theorem Ext.setCell {a b : World} (h : Ext a b) {p : Addr} (hp : a.heap.size ≤ p.block) (u : Value) : Ext a (b.setCell p u) := Below.setCell h hp u
theorem Ext.cells {a b : World} (h : Ext a b) : ∀ k o, k < a.heap.size → b.cell? ⟨k, o, none⟩ = a.cell? ⟨k, o, none⟩ := bcell h
theorem Ext.frozens {a b : World} (h : Ext a b) : ∀ k o, k < a.heap.size → b.frozen? ⟨k, o, none⟩ = a.frozen? ⟨k, o, none⟩ := fun b o h' => Below.frozen h (p := ⟨b, o, none⟩) h'
theorem Ext.below {a b : World} (h : Ext a b) : Below a.heap.size a b := h

theorem below_drewN {B : Nat} {a w : World} (h : Below B a w) (n : Nat) : Below B a (w.drewN n) := ⟨h.os, h.tape, h.output, h.size, h.block⟩

/-- the X of point k -/
def gx (l : List (Int × Int)) (k : Nat) : Int := (l.getD k (0, 0)).1
/-- the Y of point k -/
def gy (l : List (Int × Int)) (k : Nat) : Int := (l.getD k (0, 0)).2

/-- the cells of a row of points -/
def flat (l : List (Int × Int)) : List Value := l.flatMap fun p => [.int .i64 p.1, .int .i64 p.2]

theorem flat_nil : flat [] = [] := rfl
theorem flat_append (a b : List (Int × Int)) : flat (a ++ b) = flat a ++ flat b := by simp [flat]
theorem flat_length (l : List (Int × Int)) : (flat l).length = l.length * 2 := by
  induction l with
  | nil => rfl
  | cons p l ih =>
    have e : flat (p :: l) = [.int .i64 p.1, .int .i64 p.2] ++ flat l := rfl
    rw [e, List.length_append, ih]; simp; omega

theorem flat_get (l : List (Int × Int)) : ∀ k, k < l.length → (flat l)[k * 2]? = some (.int .i64 (gx l k)) ∧ (flat l)[k * 2 + 1]? = some (.int .i64 (gy l k)) := by
  induction l with
  | nil => intro k h; simp at h
  | cons p l ih =>
    intro k h
    have e : flat (p :: l) = .int .i64 p.1 :: .int .i64 p.2 :: flat l := rfl
    rw [e]
    cases k with
    | zero => exact ⟨rfl, rfl⟩
    | succ k =>
      obtain ⟨h1, h2⟩ := ih k (by simpa using h)
      have e1 : (k + 1) * 2 = k * 2 + 2 := by omega
      rw [e1]
      exact ⟨h1, h2⟩

theorem flat_at (l : List (Int × Int)) (j : Nat) (u : Value) (h : (flat l)[j]? = some u) : ∃ k, k < l.length ∧ ((j = k * 2 ∧ u = .int .i64 (gx l k)) ∨ (j = k * 2 + 1 ∧ u = .int .i64 (gy l k))) := by
  have hj : j < (flat l).length := (List.getElem?_eq_some_iff.1 h).1
  rw [flat_length] at hj
  obtain ⟨h1, h2⟩ := flat_get l (j / 2) (by omega)
  refine ⟨j / 2, by omega, ?_⟩
  rcases Nat.mod_two_eq_zero_or_one j with h0 | h0
  · left
    have e : j = j / 2 * 2 := by omega
    rw [← e, h] at h1
    exact ⟨e, by injection h1⟩
  · right
    have e : j = j / 2 * 2 + 1 := by omega
    rw [← e, h] at h2
    exact ⟨e, by injection h2⟩

/-- The row of cells from (b, off) on reads as the points of l. -/
def PtsAt (w : World) (b off : Nat) (l : List (Int × Int)) : Prop :=
  ∀ k, k < l.length → w.cell? ⟨b, off + k * 2, none⟩ = some (.int .i64 (gx l k)) ∧ w.cell? ⟨b, off + k * 2 + 1, none⟩ = some (.int .i64 (gy l k))

/-- The slice '.slice A l.length c' reads as l; its block, if it has an element, lies in [lo, hi). -/
def Pts (w : World) (lo hi : Nat) (A : Option Addr) (l : List (Int × Int)) : Prop :=
  0 < l.length → ∃ b off, A = some ⟨b, off, none⟩ ∧ lo ≤ b ∧ b < hi ∧ PtsAt w b off l

theorem PtsAt.below {B b off : Nat} {w w' : World} {l : List (Int × Int)} (h : PtsAt w b off l) (hb : Below B w w') (hlt : b < B) : PtsAt w' b off l :=
  fun k hk => ⟨(bcell hb _ _ hlt).trans (h k hk).1, (bcell hb _ _ hlt).trans (h k hk).2⟩

theorem Pts.below {B lo hi : Nat} {w w' : World} {A : Option Addr} {l : List (Int × Int)} (h : Pts w lo hi A l) (hb : Below B w w') (hle : hi ≤ B) : Pts w' lo hi A l := fun hl =>
  let ⟨b, off, e, h1, h2, h3⟩ := h hl
  ⟨b, off, e, h1, h2, h3.below hb (by omega)⟩

theorem Pts.ext {lo hi : Nat} {w w' : World} {A : Option Addr} {l : List (Int × Int)} (h : Pts w lo hi A l) (hb : Ext w w') (hle : hi ≤ w.heap.size) : Pts w' lo hi A l := Pts.below h hb hle

/-- The slice '.slice A l.length c' reads as l in w. -/
def RPts (w : World) (A : Option Addr) (l : List (Int × Int)) : Prop := Pts w 0 w.heap.size A l

theorem Pts.more {lo hi lo' hi' : Nat} {w : World} {A : Option Addr} {l : List (Int × Int)} (h : Pts w lo hi A l) (h1 : lo' ≤ lo) (h2 : hi ≤ hi') : Pts w lo' hi' A l := fun hl =>
  let ⟨b, off, e, a1, a2, h3⟩ := h hl
  ⟨b, off, e, by omega, by omega, h3⟩

theorem RPts.ext {w w' : World} {A : Option Addr} {l : List (Int × Int)} (h : RPts w A l) (hx : Ext w w') : RPts w' A l :=
  Pts.more (Pts.ext h hx (Nat.le_refl _)) (Nat.le_refl _) hx.size

theorem RPts.at_ {w : World} {A : Option Addr} {l : List (Int × Int)} (h : RPts w A l) {k : Nat} (hk : k < l.length) :
    ∃ b off, A = some ⟨b, off, none⟩ ∧ b < w.heap.size ∧ w.cell? ⟨b, off + k * 2, none⟩ = some (.int .i64 (gx l k)) ∧ w.cell? ⟨b, off + k * 2 + 1, none⟩ = some (.int .i64 (gy l k)) :=
  let ⟨b, off, e, _, h2, h3⟩ := h (Nat.lt_of_le_of_lt (Nat.zero_le k) hk)
  ⟨b, off, e, h2, h3 k hk⟩

theorem Pts.r {lo hi : Nat} {w : World} {A : Option Addr} {l : List (Int × Int)} (h : Pts w lo hi A l) (hh : hi ≤ w.heap.size) : RPts w A l := Pts.more h (Nat.zero_le _) hh

theorem RPts.nil {w : World} {A : Option Addr} : RPts w A [] := fun h => absurd h (by simp)

theorem Pts.nil {lo hi : Nat} {w : World} {A : Option Addr} : Pts w lo hi A [] := fun h => absurd h (by simp)

theorem block_lt_of_cell {w : World} {a : Addr} {v : Value} (h : w.cell? a = some v) : a.block < w.heap.size := by
  rcases Nat.lt_or_ge a.block w.heap.size with h1 | h1
  · exact h1
  · exfalso
    have : w.heap[a.block]? = none := by simp; exact h1
    simp [World.cell?, this] at h

theorem wrap_in (x : Int) (h1 : -1000000000000 ≤ x) (h2 : x ≤ 1000000000000) : IntKind.i64.wrap x = x := by
  rw [IntKind.wrap_i64]
  omega
theorem tmod_pos (a b : Int) (h : 0 ≤ a) : a.tmod b = a % b := Int.tmod_eq_emod_of_nonneg h
theorem mod_facts (a n : Int) (hn : 0 < n) : 0 ≤ a % n ∧ a % n < n := ⟨Int.emod_nonneg _ (by omega), Int.emod_lt_of_pos _ hn⟩

theorem idx_facts (e : Int) (m n : Nat) (he : e = (m : Int)) (hm : m ≤ 1000000000) (hn : 0 < n) :
    IntKind.i64.wrap e = e ∧ e.tmod (n : Int) = e % (n : Int) ∧ 0 ≤ e % (n : Int) ∧ e % (n : Int) < (n : Int) ∧ (e % (n : Int)).toNat = m % n := by
  subst he
  refine ⟨wrap_in _ (by omega) (by omega), tmod_pos _ _ (by omega), (mod_facts _ _ (by omega)).1, (mod_facts _ _ (by omega)).2, ?_⟩
  rw [← Int.natCast_emod, Int.toNat_natCast]

theorem list_of {α : Type} (d : α) {Q : Nat → α → Prop} : ∀ n, (∀ i, i < n → ∃ p, Q i p) → ∃ l : List α, l.length = n ∧ ∀ i, i < n → Q i (l.getD i d)
  | 0, _ => ⟨[], rfl, fun i hi => absurd hi (by omega)⟩
  | n + 1, h => by
    obtain ⟨l, hl, hq⟩ := list_of d n (fun i hi => h i (by omega))
    obtain ⟨p, hp⟩ := h n (by omega)
    refine ⟨l ++ [p], by simp [hl], fun i hi => ?_⟩
    by_cases e : i < n
    · have := hq i e
      rw [List.getD_eq_getElem?_getD, List.getElem?_append_left (by omega)]
      rwa [List.getD_eq_getElem?_getD] at this
    · obtain rfl : i = n := by omega
      rw [List.getD_eq_getElem?_getD, List.getElem?_append_right (by omega), hl]
      simpa using hp

/-! ## Arguments -/
section
variable {H : Type} {enc : TypeId × Value → H} {P : Program} {w : World} {base : Nat} {spare : Nat → Bool} {held : Bool}

/-- A struct of two ints. -/
theorem open_pt {r : Reach} {b0 : Nat} {t ti : TypeId} {f0 f1 : Field} {v : Value} {d : DataW H} {p : List MemPlace} (hs : P.underlying t = some (.struct #[f0, f1])) (hi : P.underlying ti = some (.int .i64))
    (e0 : f0.type = ti) (e1 : f1.type = ti) (hone : oneCellFields P #[f0, f1] = true) (hC : P.cellsOf t = 2)
    (hv : Value.okWide P w r b0 t v) (h : DataW.Trod enc P w base spare held t v d p) :
    ∃ x y : Int, v = .agg #[.int .i64 x, .int .i64 y] ∧ (Lit.int .i64 x).wf = true ∧ (Lit.int .i64 y).wf = true := by
  obtain ⟨v0, v1, y0, y1, n, rfl, _, _, h0, h1⟩ := open_agg2 hs hone hC hv h
  rw [e0] at h0; rw [e1] at h1
  obtain ⟨x, hx, _, wx⟩ := DataW.trod_int hi h0
  obtain ⟨y, hy, _, wy⟩ := DataW.trod_int hi h1
  simp only [List.cons.injEq, and_true] at hx hy
  subst hx hy
  exact ⟨x, y, rfl, wx, wy⟩

theorem trod_pt {t ti : TypeId} {f0 f1 : Field} {fuel : Nat} {cs : List Value} {x : DataW H × List MemPlace} (hs : P.underlying t = some (.struct #[f0, f1])) (hi : P.underlying ti = some (.int .i64))
    (e0 : f0.type = ti) (e1 : f1.type = ti) (o0 : f0.offset = 0) (o1 : f1.offset = 1) (hC : P.cellsOf t = 2) (hCi : P.cellsOf ti = 1) (h : DataW.trod enc P w base spare held fuel t cs = some x) :
    ∃ x y : Int, cs = [.int .i64 x, .int .i64 y] ∧ (Lit.int .i64 x).wf = true ∧ (Lit.int .i64 y).wf = true := by
  obtain ⟨xs, n, _, _, hlen, hxl, hf⟩ := DataW.trod_struct hs h
  rw [hC] at hlen
  match cs, hlen, xs, hxl with
  | [c0, c1], _, [y0, y1], _ =>
    have h0 := hf 0 f0 rfl
    have h1 := hf 1 f1 rfl
    rw [e0, o0, hCi] at h0; rw [e1, o1, hCi] at h1
    obtain ⟨x, hx, _, wx⟩ := DataW.trod_int hi h0
    obtain ⟨y, hy, _, wy⟩ := DataW.trod_int hi h1
    simp at hx hy
    subst hx hy
    exact ⟨x, y, rfl, wx, wy⟩

/-- A struct of two structs of two ints. -/
theorem open_wall {r : Reach} {b0 : Nat} {t tp ti : TypeId} {f0 f1 g0 g1 : Field} {v : Value} {d : DataW H} {p : List MemPlace} (hs : P.underlying t = some (.struct #[g0, g1])) (hp : P.underlying tp = some (.struct #[f0, f1])) (hi : P.underlying ti = some (.int .i64))
    (e0 : f0.type = ti) (e1 : f1.type = ti) (o0 : f0.offset = 0) (o1 : f1.offset = 1) (k0 : g0.type = tp) (k1 : g1.type = tp) (q0 : g0.offset = 0) (q1 : g1.offset = 2) (hC : P.cellsOf t = 4) (hCp : P.cellsOf tp = 2) (hCi : P.cellsOf ti = 1)
    (hv : Value.okWide P w r b0 t v) (h : DataW.Trod enc P w base spare held t v d p) :
    ∃ a b c d : Int, v = .agg #[.int .i64 a, .int .i64 b, .int .i64 c, .int .i64 d] ∧ (Lit.int .i64 a).wf = true ∧ (Lit.int .i64 b).wf = true ∧ (Lit.int .i64 c).wf = true ∧ (Lit.int .i64 d).wf = true := by
  obtain ⟨cs, rfl, hsz⟩ := okWide_struct hs hv
  rw [hC] at hsz
  obtain ⟨fuel, hf⟩ := h
  obtain ⟨xs, n, _, _, hlen, hxl, hff⟩ := DataW.trod_struct hs hf
  obtain ⟨l⟩ := cs
  match l, hsz, xs, hxl with
  | [c0, c1, c2, c3], _, [y0, y1], _ =>
    have h0 := hff 0 g0 rfl
    have h1 := hff 1 g1 rfl
    rw [k0, q0, hCp] at h0; rw [k1, q1, hCp] at h1
    obtain ⟨x, y, hx, wx, wy⟩ := trod_pt hp hi e0 e1 o0 o1 hCp hCi h0
    obtain ⟨x', y', hx', wx', wy'⟩ := trod_pt hp hi e0 e1 o0 o1 hCp hCi h1
    simp [Value.cells] at hx hx'
    obtain ⟨rfl, rfl⟩ := hx
    obtain ⟨rfl, rfl⟩ := hx'
    exact ⟨x, y, x', y', rfl, wx, wy, wx', wy'⟩

/-- A slice of structs of two ints, as a cell. -/
theorem trod_pts {ts t ti : TypeId} {f0 f1 : Field} {fuel : Nat} {cs : List Value} {x : DataW H × List MemPlace} (hss : P.underlying ts = some (.slice t)) (hs : P.underlying t = some (.struct #[f0, f1])) (hi : P.underlying ti = some (.int .i64))
    (e0 : f0.type = ti) (e1 : f1.type = ti) (o0 : f0.offset = 0) (o1 : f1.offset = 1) (hC : P.cellsOf t = 2) (hCi : P.cellsOf ti = 1) (h : DataW.trod enc P w base spare held fuel ts cs = some x) :
    ∃ (A : Option Addr) (l : List (Int × Int)) (c : Nat), cs = [.slice A l.length c] ∧ l.length ≤ c ∧ c ≤ maxLen ∧ Pts w 0 w.heap.size A l := by
  rcases open_slice hss h with ⟨rfl, _⟩ | ⟨a, len, cap, m, n, D, Pl, rfl, hb, hl, hm, hmm, hx, hcells⟩
  · exact ⟨none, [], 0, rfl, by simp, by unfold maxLen; simp, Pts.nil⟩
  · have hlm : len ≤ m := by rw [hmm]; split <;> omega
    have key : ∀ i, i < len → ∃ x y : Int, w.cell? (a.add (i * 2)) = some (.int .i64 x) ∧ w.cell? ((a.add (i * 2)).add 1) = some (.int .i64 y) := by
      intro i hil
      obtain ⟨cs', hc, ht⟩ := hcells i (by omega)
      rw [hC] at hc
      obtain ⟨x, y, rfl, _, _⟩ := trod_pt hs hi e0 e1 o0 o1 hC hCi ht
      obtain ⟨_, _, hat⟩ := World.cells?_some hc
      have a0 := hat 0 (by omega)
      have a1 := hat 1 (by omega)
      have z : (a.add (i * 2)).add 0 = a.add (i * 2) := by simp [Addr.add]
      rw [z] at a0
      exact ⟨x, y, a0, a1⟩
    obtain ⟨l, hll, hq⟩ := list_of ((0, 0) : Int × Int) (Q := fun i q => w.cell? (a.add (i * 2)) = some (.int .i64 q.1) ∧ w.cell? ((a.add (i * 2)).add 1) = some (.int .i64 q.2)) len
      (fun i hi => let ⟨x, y, h1, h2⟩ := key i hi; ⟨(x, y), h1, h2⟩)
    refine ⟨some a, l, cap, by rw [hll], by omega, hm, fun h0 => ?_⟩
    have hpos : 0 < len := by omega
    obtain ⟨b, off, spot⟩ := a
    have hspot : spot = none := by
      obtain ⟨h0, _⟩ := hq 0 hpos
      simpa [Addr.add] using World.cell?_spot h0
    subst hspot
    have ad : ∀ (b off j : Nat), (Addr.add ⟨b, off, none⟩ j) = ⟨b, off + j, none⟩ := fun b off j => by
      unfold Addr.add
      split
      · subst_vars; rfl
      · rfl
    refine ⟨b, off, rfl, Nat.zero_le _, ?_, fun k hk => ?_⟩
    · obtain ⟨h0, _⟩ := hq 0 hpos
      simpa [Addr.add] using block_lt_of_cell h0
    · have hk' : k < len := by omega
      have h1 := hq k hk'
      rw [ad, ad] at h1
      exact h1

/-- An argument that is a slice of points. -/
theorem open_pts {r : Reach} {b0 : Nat} {ts t ti : TypeId} {f0 f1 : Field} {v : Value} {d : DataW H} {p : List MemPlace} (hss : P.underlying ts = some (.slice t)) (hs : P.underlying t = some (.struct #[f0, f1])) (hi : P.underlying ti = some (.int .i64))
    (e0 : f0.type = ti) (e1 : f1.type = ti) (o0 : f0.offset = 0) (o1 : f1.offset = 1) (hC : P.cellsOf t = 2) (hCi : P.cellsOf ti = 1) (hv : Value.okWide P w r b0 ts v) (h : DataW.Trod enc P w base spare held ts v d p) :
    ∃ (A : Option Addr) (l : List (Int × Int)) (c : Nat), v = .slice A l.length c ∧ l.length ≤ c ∧ c ≤ maxLen ∧ Pts w 0 w.heap.size A l := by
  obtain ⟨a, len, cap, rfl⟩ := okWide_slice hss hv
  obtain ⟨fuel, hf⟩ := h
  obtain ⟨A, l, c, h1, h2, h3, h4⟩ := trod_pts hss hs hi e0 e1 o0 o1 hC hCi hf
  simp [Value.cells] at h1
  obtain ⟨rfl, rfl, rfl⟩ := h1
  exact ⟨_, l, _, rfl, h2, h3, h4⟩

/-- An argument that is a struct of one slice of points. -/
theorem open_room {r : Reach} {b0 : Nat} {tr ts t ti : TypeId} {fc f0 f1 : Field} {v : Value} {d : DataW H} {p : List MemPlace} (hr : P.underlying tr = some (.struct #[fc])) (ec : fc.type = ts) (oc : fc.offset = 0) (hCr : P.cellsOf tr = 1) (hCs : P.cellsOf ts = 1)
    (hss : P.underlying ts = some (.slice t)) (hs : P.underlying t = some (.struct #[f0, f1])) (hi : P.underlying ti = some (.int .i64))
    (e0 : f0.type = ti) (e1 : f1.type = ti) (o0 : f0.offset = 0) (o1 : f1.offset = 1) (hC : P.cellsOf t = 2) (hCi : P.cellsOf ti = 1) (hv : Value.okWide P w r b0 tr v) (h : DataW.Trod enc P w base spare held tr v d p) :
    ∃ (A : Option Addr) (l : List (Int × Int)) (c : Nat), v = .agg #[.slice A l.length c] ∧ l.length ≤ c ∧ c ≤ maxLen ∧ Pts w 0 w.heap.size A l := by
  obtain ⟨cs, rfl, hsz⟩ := okWide_struct hr hv
  rw [hCr] at hsz
  obtain ⟨fuel, hf⟩ := h
  obtain ⟨xs, n, _, _, hlen, hxl, hff⟩ := DataW.trod_struct hr hf
  obtain ⟨l⟩ := cs
  match l, hsz, xs, hxl with
  | [c0], _, [y0], _ =>
    have h0 := hff 0 fc rfl
    rw [ec, oc, hCs] at h0
    obtain ⟨A, l, c, h1, h2, h3, h4⟩ := trod_pts hss hs hi e0 e1 o0 o1 hC hCi h0
    simp [Value.cells] at h1
    subst h1
    exact ⟨_, l, _, rfl, h2, h3, h4⟩
end
end Go.Proofs.Ytnomiefjefopbaa
