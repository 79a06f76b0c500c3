/- 14 texts joined: Base Kit Geo Pt Own Flow App Late Draw Draw2 FlowT FlowTT Help Walls. -/
import Derived.WalkKit
import Derived.ProofKit
import Derived.Lib.SmallJoins
import Derived.Deep.Slices
import Derived.Deep.Fields
import Derived.IntWalk
import Derived.Test.YtjccilpjaaiicaaRows
import Derived.Test.YtjccilpjaaiicaaProg
import Derived.WalkSpells
import Derived.WalkLawsBesides
import Derived.Laws.MakeOwn
import Derived.Orders
import Derived.RegionTactic
import Derived.Tactics
import Derived.Maps.AppendAt
import Derived.OwnWalk
namespace Go.Proofs.Ytjccilpjaaiicaa
open Go.RowKit Go.ChangeShapes Go.WideShapes Go.Joins Go.Deep

theorem hide {p : Prop} (h : p) : Hid p := h

theorem bcell {B : Nat} {W w1 : World} (hb : Below B W w1) : (∀ b o, b < B → w1.cell? ⟨b, o, none⟩ = W.cell? ⟨b, o, none⟩) :=
  fun b o h => hb.cell (p := ⟨b, o, none⟩) h

/-- Nothing that was there has turned; blocks may have come. -/
def Ext (w w' : World) : Prop := Below w.heap.size w w'
theorem Ext.refl (w : World) : Ext w w := Below.refl _ _
theorem Ext.size {a b : World} (h : Ext a b) : a.heap.size ≤ b.heap.size := Below.size h
theorem Ext.trans {a b c : World} (h : Ext a b) (k : Ext b c) : Ext a c := Below.trans h (Below.mono k h.size)
theorem Ext.alloc {a b : World} (h : Ext a b) (o : Obj) : Ext a (b.alloc o) := Below.alloc h h.size o
theorem Ext.drew {a b : World} (h : Ext a b) : Ext a b.drew := Below.drew h
theorem Ext.drewN {a b : World} (h : Ext a b) (n : Nat) : Ext a (b.drewN n) := by
  have k : Below a.heap.size a b := h
  exact ⟨k.os, k.tape, k.output, k.size, k.block⟩
theorem Ext.setCell {a b : World} (h : Ext a b) {p : Addr} (hp : a.heap.size ≤ p.block) (u : Value) : Ext a (b.setCell p u) := Below.setCell h hp u
theorem Ext.cells {a b : World} (h : Ext a b) : ∀ k o, k < a.heap.size → b.cell? ⟨k, o, none⟩ = a.cell? ⟨k, o, none⟩ := bcell h
theorem Ext.frozens {a b : World} (h : Ext a b) : ∀ k o, k < a.heap.size → b.frozen? ⟨k, o, none⟩ = a.frozen? ⟨k, o, none⟩ := fun b o h' => Below.frozen h (p := ⟨b, o, none⟩) h'
theorem Ext.below {a b : World} (h : Ext a b) : Below a.heap.size a b := h

theorem below_drewN {B : Nat} {a w : World} (h : Below B a w) (n : Nat) : Below B a (w.drewN n) := ⟨h.os, h.tape, h.output, h.size, h.block⟩

/-- the X of point k -/
def gx (l : List (Int × Int)) (k : Nat) : Int := (l.getD k (0, 0)).1
/-- the Y of point k -/
def gy (l : List (Int × Int)) (k : Nat) : Int := (l.getD k (0, 0)).2

/-- the cells of a row of points -/
def flat (l : List (Int × Int)) : List Value := l.flatMap fun p => [.int .i64 p.1, .int .i64 p.2]

theorem flat_nil : flat [] = [] := rfl
theorem flat_append (a b : List (Int × Int)) : flat (a ++ b) = flat a ++ flat b := by simp [flat]
theorem flat_length (l : List (Int × Int)) : (flat l).length = l.length * 2 := by
  induction l with
  | nil => rfl
  | cons p l ih =>
    have e : flat (p :: l) = [.int .i64 p.1, .int .i64 p.2] ++ flat l := rfl
    rw [e, List.length_append, ih]; simp; omega

theorem flat_get (l : List (Int × Int)) : ∀ k, k < l.length → (flat l)[k * 2]? = some (.int .i64 (gx l k)) ∧ (flat l)[k * 2 + 1]? = some (.int .i64 (gy l k)) := by
  induction l with
  | nil => intro k h; simp at h
  | cons p l ih =>
    intro k h
    have e : flat (p :: l) = .int .i64 p.1 :: .int .i64 p.2 :: flat l := rfl
    rw [e]
    cases k with
    | zero => exact ⟨rfl, rfl⟩
    | succ k =>
      obtain ⟨h1, h2⟩ := ih k (by simpa using h)
      have e1 : (k + 1) * 2 = k * 2 + 2 := by omega
      rw [e1]
      exact ⟨h1, h2⟩

theorem flat_at (l : List (Int × Int)) (j : Nat) (u : Value) (h : (flat l)[j]? = some u) : ∃ k, k < l.length ∧ ((j = k * 2 ∧ u = .int .i64 (gx l k)) ∨ (j = k * 2 + 1 ∧ u = .int .i64 (gy l k))) := by
  have hj : j < (flat l).length := (List.getElem?_eq_some_iff.1 h).1
  rw [flat_length] at hj
  obtain ⟨h1, h2⟩ := flat_get l (j / 2) (by omega)
  refine ⟨j / 2, by omega, ?_⟩
  rcases Nat.mod_two_eq_zero_or_one j with h0 | h0
  · left
    have e : j = j / 2 * 2 := by omega
    rw [← e, h] at h1
    exact ⟨e, by injection h1⟩
  · right
    have e : j = j / 2 * 2 + 1 := by omega
    rw [← e, h] at h2
    exact ⟨e, by injection h2⟩

/-- The row of cells from (b, off) on reads as the points of l. -/
def PtsAt (w : World) (b off : Nat) (l : List (Int × Int)) : Prop :=
  ∀ k, k < l.length → w.cell? ⟨b, off + k * 2, none⟩ = some (.int .i64 (gx l k)) ∧ w.cell? ⟨b, off + k * 2 + 1, none⟩ = some (.int .i64 (gy l k))

/-- The slice '.slice A l.length c' reads as l; its block, if it has an element, lies in [lo, hi). -/
def Pts (w : World) (lo hi : Nat) (A : Option Addr) (l : List (Int × Int)) : Prop :=
  0 < l.length → ∃ b off, A = some ⟨b, off, none⟩ ∧ lo ≤ b ∧ b < hi ∧ PtsAt w b off l

theorem PtsAt.below {B b off : Nat} {w w' : World} {l : List (Int × Int)} (h : PtsAt w b off l) (hb : Below B w w') (hlt : b < B) : PtsAt w' b off l :=
  fun k hk => ⟨(bcell hb _ _ hlt).trans (h k hk).1, (bcell hb _ _ hlt).trans (h k hk).2⟩

theorem Pts.below {B lo hi : Nat} {w w' : World} {A : Option Addr} {l : List (Int × Int)} (h : Pts w lo hi A l) (hb : Below B w w') (hle : hi ≤ B) : Pts w' lo hi A l := fun hl =>
  let ⟨b, off, e, h1, h2, h3⟩ := h hl
  ⟨b, off, e, h1, h2, h3.below hb (by omega)⟩

theorem Pts.ext {lo hi : Nat} {w w' : World} {A : Option Addr} {l : List (Int × Int)} (h : Pts w lo hi A l) (hb : Ext w w') (hle : hi ≤ w.heap.size) : Pts w' lo hi A l := Pts.below h hb hle

/-- The slice '.slice A l.length c' reads as l in w. -/
def RPts (w : World) (A : Option Addr) (l : List (Int × Int)) : Prop := Pts w 0 w.heap.size A l

theorem Pts.more {lo hi lo' hi' : Nat} {w : World} {A : Option Addr} {l : List (Int × Int)} (h : Pts w lo hi A l) (h1 : lo' ≤ lo) (h2 : hi ≤ hi') : Pts w lo' hi' A l := fun hl =>
  let ⟨b, off, e, a1, a2, h3⟩ := h hl
  ⟨b, off, e, by omega, by omega, h3⟩

theorem RPts.ext {w w' : World} {A : Option Addr} {l : List (Int × Int)} (h : RPts w A l) (hx : Ext w w') : RPts w' A l :=
  Pts.more (Pts.ext h hx (Nat.le_refl _)) (Nat.le_refl _) hx.size

theorem RPts.at_ {w : World} {A : Option Addr} {l : List (Int × Int)} (h : RPts w A l) {k : Nat} (hk : k < l.length) :
    ∃ b off, A = some ⟨b, off, none⟩ ∧ b < w.heap.size ∧ w.cell? ⟨b, off + k * 2, none⟩ = some (.int .i64 (gx l k)) ∧ w.cell? ⟨b, off + k * 2 + 1, none⟩ = some (.int .i64 (gy l k)) :=
  let ⟨b, off, e, _, h2, h3⟩ := h (Nat.lt_of_le_of_lt (Nat.zero_le k) hk)
  ⟨b, off, e, h2, h3 k hk⟩

theorem Pts.r {lo hi : Nat} {w : World} {A : Option Addr} {l : List (Int × Int)} (h : Pts w lo hi A l) (hh : hi ≤ w.heap.size) : RPts w A l := Pts.more h (Nat.zero_le _) hh

theorem RPts.nil {w : World} {A : Option Addr} : RPts w A [] := fun h => absurd h (by simp)

theorem Pts.nil {lo hi : Nat} {w : World} {A : Option Addr} : Pts w lo hi A [] := fun h => absurd h (by simp)

theorem block_lt_of_cell {w : World} {a : Addr} {v : Value} (h : w.cell? a = some v) : a.block < w.heap.size := by
  rcases Nat.lt_or_ge a.block w.heap.size with h1 | h1
  · exact h1
  · exfalso
    have : w.heap[a.block]? = none := by simp; exact h1
    simp [World.cell?, this] at h

theorem wrap_in (x : Int) (h1 : -1000000000000 ≤ x) (h2 : x ≤ 1000000000000) : IntKind.i64.wrap x = x := by
  rw [IntKind.wrap_i64]
  omega
theorem tmod_pos (a b : Int) (h : 0 ≤ a) : a.tmod b = a % b := Int.tmod_eq_emod_of_nonneg h
theorem mod_facts (a n : Int) (hn : 0 < n) : 0 ≤ a % n ∧ a % n < n := ⟨Int.emod_nonneg _ (by omega), Int.emod_lt_of_pos _ hn⟩

theorem idx_facts (e : Int) (m n : Nat) (he : e = (m : Int)) (hm : m ≤ 1000000000) (hn : 0 < n) :
    IntKind.i64.wrap e = e ∧ e.tmod (n : Int) = e % (n : Int) ∧ 0 ≤ e % (n : Int) ∧ e % (n : Int) < (n : Int) ∧ (e % (n : Int)).toNat = m % n := by
  subst he
  refine ⟨wrap_in _ (by omega) (by omega), tmod_pos _ _ (by omega), (mod_facts _ _ (by omega)).1, (mod_facts _ _ (by omega)).2, ?_⟩
  rw [← Int.natCast_emod, Int.toNat_natCast]

theorem list_of {α : Type} (d : α) {Q : Nat → α → Prop} : ∀ n, (∀ i, i < n → ∃ p, Q i p) → ∃ l : List α, l.length = n ∧ ∀ i, i < n → Q i (l.getD i d)
  | 0, _ => ⟨[], rfl, fun i hi => absurd hi (by omega)⟩
  | n + 1, h => by
    obtain ⟨l, hl, hq⟩ := list_of d n (fun i hi => h i (by omega))
    obtain ⟨p, hp⟩ := h n (by omega)
    refine ⟨l ++ [p], by simp [hl], fun i hi => ?_⟩
    by_cases e : i < n
    · have := hq i e
      rw [List.getD_eq_getElem?_getD, List.getElem?_append_left (by omega)]
      rwa [List.getD_eq_getElem?_getD] at this
    · obtain rfl : i = n := by omega
      rw [List.getD_eq_getElem?_getD, List.getElem?_append_right (by omega), hl]
      simpa using hp

/-! ## Arguments -/
section
variable {H : Type} {enc : TypeId × Value → H} {P : Program} {w : World} {base : Nat} {spare : Nat → Bool} {held : Bool}

/-- A struct of two ints. -/
theorem open_pt {r : Reach} {b0 : Nat} {t ti : TypeId} {f0 f1 : Field} {v : Value} {d : DataW H} {p : List MemPlace} (hs : P.underlying t = some (.struct #[f0, f1])) (hi : P.underlying ti = some (.int .i64))
    (e0 : f0.type = ti) (e1 : f1.type = ti) (hone : oneCellFields P #[f0, f1] = true) (hC : P.cellsOf t = 2)
    (hv : Value.okWide P w r b0 t v) (h : DataW.Trod enc P w base spare held t v d p) :
    ∃ x y : Int, v = .agg #[.int .i64 x, .int .i64 y] ∧ (Lit.int .i64 x).wf = true ∧ (Lit.int .i64 y).wf = true := by
  obtain ⟨v0, v1, y0, y1, n, rfl, _, _, h0, h1⟩ := open_agg2 hs hone hC hv h
  rw [e0] at h0; rw [e1] at h1
  obtain ⟨x, hx, _, wx⟩ := DataW.trod_int hi h0
  obtain ⟨y, hy, _, wy⟩ := DataW.trod_int hi h1
  simp only [List.cons.injEq, and_true] at hx hy
  subst hx hy
  exact ⟨x, y, rfl, wx, wy⟩

theorem trod_pt {t ti : TypeId} {f0 f1 : Field} {fuel : Nat} {cs : List Value} {x : DataW H × List MemPlace} (hs : P.underlying t = some (.struct #[f0, f1])) (hi : P.underlying ti = some (.int .i64))
    (e0 : f0.type = ti) (e1 : f1.type = ti) (o0 : f0.offset = 0) (o1 : f1.offset = 1) (hC : P.cellsOf t = 2) (hCi : P.cellsOf ti = 1) (h : DataW.trod enc P w base spare held fuel t cs = some x) :
    ∃ x y : Int, cs = [.int .i64 x, .int .i64 y] ∧ (Lit.int .i64 x).wf = true ∧ (Lit.int .i64 y).wf = true := by
  obtain ⟨xs, n, _, _, hlen, hxl, hf⟩ := DataW.trod_struct hs h
  rw [hC] at hlen
  match cs, hlen, xs, hxl with
  | [c0, c1], _, [y0, y1], _ =>
    have h0 := hf 0 f0 rfl
    have h1 := hf 1 f1 rfl
    rw [e0, o0, hCi] at h0; rw [e1, o1, hCi] at h1
    obtain ⟨x, hx, _, wx⟩ := DataW.trod_int hi h0
    obtain ⟨y, hy, _, wy⟩ := DataW.trod_int hi h1
    simp at hx hy
    subst hx hy
    exact ⟨x, y, rfl, wx, wy⟩

/-- A struct of two structs of two ints. -/
theorem open_wall {r : Reach} {b0 : Nat} {t tp ti : TypeId} {f0 f1 g0 g1 : Field} {v : Value} {d : DataW H} {p : List MemPlace} (hs : P.underlying t = some (.struct #[g0, g1])) (hp : P.underlying tp = some (.struct #[f0, f1])) (hi : P.underlying ti = some (.int .i64))
    (e0 : f0.type = ti) (e1 : f1.type = ti) (o0 : f0.offset = 0) (o1 : f1.offset = 1) (k0 : g0.type = tp) (k1 : g1.type = tp) (q0 : g0.offset = 0) (q1 : g1.offset = 2) (hC : P.cellsOf t = 4) (hCp : P.cellsOf tp = 2) (hCi : P.cellsOf ti = 1)
    (hv : Value.okWide P w r b0 t v) (h : DataW.Trod enc P w base spare held t v d p) :
    ∃ a b c d : Int, v = .agg #[.int .i64 a, .int .i64 b, .int .i64 c, .int .i64 d] ∧ (Lit.int .i64 a).wf = true ∧ (Lit.int .i64 b).wf = true ∧ (Lit.int .i64 c).wf = true ∧ (Lit.int .i64 d).wf = true := by
  obtain ⟨cs, rfl, hsz⟩ := okWide_struct hs hv
  rw [hC] at hsz
  obtain ⟨fuel, hf⟩ := h
  obtain ⟨xs, n, _, _, hlen, hxl, hff⟩ := DataW.trod_struct hs hf
  obtain ⟨l⟩ := cs
  match l, hsz, xs, hxl with
  | [c0, c1, c2, c3], _, [y0, y1], _ =>
    have h0 := hff 0 g0 rfl
    have h1 := hff 1 g1 rfl
    rw [k0, q0, hCp] at h0; rw [k1, q1, hCp] at h1
    obtain ⟨x, y, hx, wx, wy⟩ := trod_pt hp hi e0 e1 o0 o1 hCp hCi h0
    obtain ⟨x', y', hx', wx', wy'⟩ := trod_pt hp hi e0 e1 o0 o1 hCp hCi h1
    simp [Value.cells] at hx hx'
    obtain ⟨rfl, rfl⟩ := hx
    obtain ⟨rfl, rfl⟩ := hx'
    exact ⟨x, y, x', y', rfl, wx, wy, wx', wy'⟩

/-- A slice of structs of two ints, as a cell. -/
theorem trod_pts {ts t ti : TypeId} {f0 f1 : Field} {fuel : Nat} {cs : List Value} {x : DataW H × List MemPlace} (hss : P.underlying ts = some (.slice t)) (hs : P.underlying t = some (.struct #[f0, f1])) (hi : P.underlying ti = some (.int .i64))
    (e0 : f0.type = ti) (e1 : f1.type = ti) (o0 : f0.offset = 0) (o1 : f1.offset = 1) (hC : P.cellsOf t = 2) (hCi : P.cellsOf ti = 1) (h : DataW.trod enc P w base spare held fuel ts cs = some x) :
    ∃ (A : Option Addr) (l : List (Int × Int)) (c : Nat), cs = [.slice A l.length c] ∧ l.length ≤ c ∧ c ≤ maxLen ∧ Pts w 0 w.heap.size A l := by
  rcases open_slice hss h with ⟨rfl, _⟩ | ⟨a, len, cap, m, n, D, Pl, rfl, hb, hl, hm, hmm, hx, hcells⟩
  · exact ⟨none, [], 0, rfl, by simp, by unfold maxLen; simp, Pts.nil⟩
  · have hlm : len ≤ m := by rw [hmm]; split <;> omega
    have key : ∀ i, i < len → ∃ x y : Int, w.cell? (a.add (i * 2)) = some (.int .i64 x) ∧ w.cell? ((a.add (i * 2)).add 1) = some (.int .i64 y) := by
      intro i hil
      obtain ⟨cs', hc, ht⟩ := hcells i (by omega)
      rw [hC] at hc
      obtain ⟨x, y, rfl, _, _⟩ := trod_pt hs hi e0 e1 o0 o1 hC hCi ht
      obtain ⟨_, _, hat⟩ := World.cells?_some hc
      have a0 := hat 0 (by omega)
      have a1 := hat 1 (by omega)
      have z : (a.add (i * 2)).add 0 = a.add (i * 2) := by simp [Addr.add]
      rw [z] at a0
      exact ⟨x, y, a0, a1⟩
    obtain ⟨l, hll, hq⟩ := list_of ((0, 0) : Int × Int) (Q := fun i q => w.cell? (a.add (i * 2)) = some (.int .i64 q.1) ∧ w.cell? ((a.add (i * 2)).add 1) = some (.int .i64 q.2)) len
      (fun i hi => let ⟨x, y, h1, h2⟩ := key i hi; ⟨(x, y), h1, h2⟩)
    refine ⟨some a, l, cap, by rw [hll], by omega, hm, fun h0 => ?_⟩
    have hpos : 0 < len := by omega
    obtain ⟨b, off, spot⟩ := a
    have hspot : spot = none := by
      obtain ⟨h0, _⟩ := hq 0 hpos
      simpa [Addr.add] using World.cell?_spot h0
    subst hspot
    have ad : ∀ (b off j : Nat), (Addr.add ⟨b, off, none⟩ j) = ⟨b, off + j, none⟩ := fun b off j => by
      unfold Addr.add
      split
      · subst_vars; rfl
      · rfl
    refine ⟨b, off, rfl, Nat.zero_le _, ?_, fun k hk => ?_⟩
    · obtain ⟨h0, _⟩ := hq 0 hpos
      simpa [Addr.add] using block_lt_of_cell h0
    · have hk' : k < len := by omega
      have h1 := hq k hk'
      rw [ad, ad] at h1
      exact h1

/-- An argument that is a slice of points. -/
theorem open_pts {r : Reach} {b0 : Nat} {ts t ti : TypeId} {f0 f1 : Field} {v : Value} {d : DataW H} {p : List MemPlace} (hss : P.underlying ts = some (.slice t)) (hs : P.underlying t = some (.struct #[f0, f1])) (hi : P.underlying ti = some (.int .i64))
    (e0 : f0.type = ti) (e1 : f1.type = ti) (o0 : f0.offset = 0) (o1 : f1.offset = 1) (hC : P.cellsOf t = 2) (hCi : P.cellsOf ti = 1) (hv : Value.okWide P w r b0 ts v) (h : DataW.Trod enc P w base spare held ts v d p) :
    ∃ (A : Option Addr) (l : List (Int × Int)) (c : Nat), v = .slice A l.length c ∧ l.length ≤ c ∧ c ≤ maxLen ∧ Pts w 0 w.heap.size A l := by
  obtain ⟨a, len, cap, rfl⟩ := okWide_slice hss hv
  obtain ⟨fuel, hf⟩ := h
  obtain ⟨A, l, c, h1, h2, h3, h4⟩ := trod_pts hss hs hi e0 e1 o0 o1 hC hCi hf
  simp [Value.cells] at h1
  obtain ⟨rfl, rfl, rfl⟩ := h1
  exact ⟨_, l, _, rfl, h2, h3, h4⟩

/-- An argument that is a struct of one slice of points. -/
theorem open_room {r : Reach} {b0 : Nat} {tr ts t ti : TypeId} {fc f0 f1 : Field} {v : Value} {d : DataW H} {p : List MemPlace} (hr : P.underlying tr = some (.struct #[fc])) (ec : fc.type = ts) (oc : fc.offset = 0) (hCr : P.cellsOf tr = 1) (hCs : P.cellsOf ts = 1)
    (hss : P.underlying ts = some (.slice t)) (hs : P.underlying t = some (.struct #[f0, f1])) (hi : P.underlying ti = some (.int .i64))
    (e0 : f0.type = ti) (e1 : f1.type = ti) (o0 : f0.offset = 0) (o1 : f1.offset = 1) (hC : P.cellsOf t = 2) (hCi : P.cellsOf ti = 1) (hv : Value.okWide P w r b0 tr v) (h : DataW.Trod enc P w base spare held tr v d p) :
    ∃ (A : Option Addr) (l : List (Int × Int)) (c : Nat), v = .agg #[.slice A l.length c] ∧ l.length ≤ c ∧ c ≤ maxLen ∧ Pts w 0 w.heap.size A l := by
  obtain ⟨cs, rfl, hsz⟩ := okWide_struct hr hv
  rw [hCr] at hsz
  obtain ⟨fuel, hf⟩ := h
  obtain ⟨xs, n, _, _, hlen, hxl, hff⟩ := DataW.trod_struct hr hf
  obtain ⟨l⟩ := cs
  match l, hsz, xs, hxl with
  | [c0], _, [y0], _ =>
    have h0 := hff 0 fc rfl
    rw [ec, oc, hCs] at h0
    obtain ⟨A, l, c, h1, h2, h3, h4⟩ := trod_pts hss hs hi e0 e1 o0 o1 hC hCi h0
    simp [Value.cells] at h1
    subst h1
    exact ⟨_, l, _, rfl, h2, h3, h4⟩
end
end Go.Proofs.Ytjccilpjaaiicaa

namespace Go.Proofs.Ytjccilpjaaiicaa
open Go.ChangeShapes Go.WideShapes Go.ChangeAt Go.RowKit

theorem own : ownKnob Try.prog.godebug = none := by kernel_rfl

theorem laidOut : laidOutB Try.prog = true := by kernel_rfl

/-- the signs ahead of the first space, and those behind it -/
def wordCutB : List Char → Option (List Char × List Char)
  | [] => none
  | c :: r => if c == Char.ofNat 32 then some ([], r) else (wordCutB r).map fun p => (c :: p.1, p.2)
def word1 (l : List Char) : List Char := ((wordCutB l).getD ([], [])).1
def rest1 (l : List Char) : List Char := ((wordCutB l).getD ([], [])).2

theorem words_cut : ∀ l : List Char, (wordCutB l).isSome = true → wordsSigns l = word1 l :: wordsSigns (rest1 l)
  | [], h => by simp [wordCutB] at h
  | c :: r, h => by
    by_cases hc : c = Char.ofNat 32
    · subst hc
      rfl
    · have hb : (c == Char.ofNat 32) = false := by simpa using hc
      have h' : (wordCutB r).isSome = true := by simpa [wordCutB, hb] using h
      have ih := words_cut r h'
      have e : wordsSigns (c :: r) = match wordsSigns r with | w :: ws => (c :: w) :: ws | [] => [[c]] := by
        rw [wordsSigns]
        · rfl
        · exact hc
      rw [e, ih]
      obtain ⟨p, hp⟩ := Option.isSome_iff_exists.1 h'
      simp [word1, rest1, wordCutB, hb, hp]

def isig : List Char := [Char.ofNat 104, Char.ofNat 97, Char.ofNat 114, Char.ofNat 110, Char.ofNat 101, Char.ofNat 115, Char.ofNat 115, Char.ofNat 32, Char.ofNat 48, Char.ofNat 98, Char.ofNat 100, Char.ofNat 98, Char.ofNat 57, Char.ofNat 57, Char.ofNat 97, Char.ofNat 57, Char.ofNat 97, Char.ofNat 49, Char.ofNat 57, Char.ofNat 54, Char.ofNat 57, Char.ofNat 54, Char.ofNat 51, Char.ofNat 99, Char.ofNat 102, Char.ofNat 48, Char.ofNat 101, Char.ofNat 53, Char.ofNat 55, Char.ofNat 53, Char.ofNat 98, Char.ofNat 51, Char.ofNat 51, Char.ofNat 98, Char.ofNat 55, Char.ofNat 102, Char.ofNat 52, Char.ofNat 55, Char.ofNat 52, Char.ofNat 49, Char.ofNat 102, Char.ofNat 98, Char.ofNat 98, Char.ofNat 52, Char.ofNat 55, Char.ofNat 55, Char.ofNat 50, Char.ofNat 49, Char.ofNat 48, Char.ofNat 48, Char.ofNat 49, Char.ofNat 97, Char.ofNat 49, Char.ofNat 50, Char.ofNat 55, Char.ofNat 53, Char.ofNat 48, Char.ofNat 100, Char.ofNat 50, Char.ofNat 99, Char.ofNat 52, Char.ofNat 97, Char.ofNat 50, Char.ofNat 98, Char.ofNat 49, Char.ofNat 53, Char.ofNat 49, Char.ofNat 54, Char.ofNat 52, Char.ofNat 53, Char.ofNat 48, Char.ofNat 51, Char.ofNat 32, Char.ofNat 99, Char.ofNat 117, Char.ofNat 116, Char.ofNat 32, Char.ofNat 97, Char.ofNat 116, Char.ofNat 32, Char.ofNat 108, Char.ofNat 111, Char.ofNat 111, Char.ofNat 112, Char.ofNat 46, Char.ofNat 101, Char.ofNat 120, Char.ofNat 97, Char.ofNat 109, Char.ofNat 112, Char.ofNat 108, Char.ofNat 101, Char.ofNat 47, Char.ofNat 103, Char.ofNat 48, Char.ofNat 48, Char.ofNat 57, Char.ofNat 57, Char.ofNat 49, Char.ofNat 47, Char.ofNat 108, Char.ofNat 97, Char.ofNat 119, Char.ofNat 115, Char.ofNat 46, Char.ofNat 70, Char.ofNat 110, Char.ofNat 83, Char.ofNat 105, Char.ofNat 103, Char.ofNat 104, Char.ofNat 116, Char.ofNat 115, Char.ofNat 32, Char.ofNat 108, Char.ofNat 111, Char.ofNat 111, Char.ofNat 112, Char.ofNat 46, Char.ofNat 101, Char.ofNat 120, Char.ofNat 97, Char.ofNat 109, Char.ofNat 112, Char.ofNat 108, Char.ofNat 101, Char.ofNat 47, Char.ofNat 103, Char.ofNat 48, Char.ofNat 48, Char.ofNat 57, Char.ofNat 57, Char.ofNat 49, Char.ofNat 47, Char.ofNat 108, Char.ofNat 97, Char.ofNat 119, Char.ofNat 115, Char.ofNat 46, Char.ofNat 70, Char.ofNat 110, Char.ofNat 68, Char.ofNat 105, Char.ofNat 97, Char.ofNat 103, Char.ofNat 111, Char.ofNat 110, Char.ofNat 97, Char.ofNat 108, Char.ofNat 115]

theorem initLit : Try.prog.initOrder = "harness 0bdb99a9a196963cf0e575b33b7f4741fbb47721001a12750d2c4a2b15164503 cut at loop.example/g00991/laws.FnSights loop.example/g00991/laws.FnDiagonals" := by kernel_rfl

theorem litSigns : ("harness 0bdb99a9a196963cf0e575b33b7f4741fbb47721001a12750d2c4a2b15164503 cut at loop.example/g00991/laws.FnSights loop.example/g00991/laws.FnDiagonals" : String) = String.ofList [Char.ofNat 104, Char.ofNat 97, Char.ofNat 114, Char.ofNat 110, Char.ofNat 101, Char.ofNat 115, Char.ofNat 115, Char.ofNat 32, Char.ofNat 48, Char.ofNat 98, Char.ofNat 100, Char.ofNat 98, Char.ofNat 57, Char.ofNat 57, Char.ofNat 97, Char.ofNat 57, Char.ofNat 97, Char.ofNat 49, Char.ofNat 57, Char.ofNat 54, Char.ofNat 57, Char.ofNat 54, Char.ofNat 51, Char.ofNat 99, Char.ofNat 102, Char.ofNat 48, Char.ofNat 101, Char.ofNat 53, Char.ofNat 55, Char.ofNat 53, Char.ofNat 98, Char.ofNat 51, Char.ofNat 51, Char.ofNat 98, Char.ofNat 55, Char.ofNat 102, Char.ofNat 52, Char.ofNat 55, Char.ofNat 52, Char.ofNat 49, Char.ofNat 102, Char.ofNat 98, Char.ofNat 98, Char.ofNat 52, Char.ofNat 55, Char.ofNat 55, Char.ofNat 50, Char.ofNat 49, Char.ofNat 48, Char.ofNat 48, Char.ofNat 49, Char.ofNat 97, Char.ofNat 49, Char.ofNat 50, Char.ofNat 55, Char.ofNat 53, Char.ofNat 48, Char.ofNat 100, Char.ofNat 50, Char.ofNat 99, Char.ofNat 52, Char.ofNat 97, Char.ofNat 50, Char.ofNat 98, Char.ofNat 49, Char.ofNat 53, Char.ofNat 49, Char.ofNat 54, Char.ofNat 52, Char.ofNat 53, Char.ofNat 48, Char.ofNat 51, Char.ofNat 32, Char.ofNat 99, Char.ofNat 117, Char.ofNat 116, Char.ofNat 32, Char.ofNat 97, Char.ofNat 116, Char.ofNat 32, Char.ofNat 108, Char.ofNat 111, Char.ofNat 111, Char.ofNat 112, Char.ofNat 46, Char.ofNat 101, Char.ofNat 120, Char.ofNat 97, Char.ofNat 109, Char.ofNat 112, Char.ofNat 108, Char.ofNat 101, Char.ofNat 47, Char.ofNat 103, Char.ofNat 48, Char.ofNat 48, Char.ofNat 57, Char.ofNat 57, Char.ofNat 49, Char.ofNat 47, Char.ofNat 108, Char.ofNat 97, Char.ofNat 119, Char.ofNat 115, Char.ofNat 46, Char.ofNat 70, Char.ofNat 110, Char.ofNat 83, Char.ofNat 105, Char.ofNat 103, Char.ofNat 104, Char.ofNat 116, Char.ofNat 115, Char.ofNat 32, Char.ofNat 108, Char.ofNat 111, Char.ofNat 111, Char.ofNat 112, Char.ofNat 46, Char.ofNat 101, Char.ofNat 120, Char.ofNat 97, Char.ofNat 109, Char.ofNat 112, Char.ofNat 108, Char.ofNat 101, Char.ofNat 47, Char.ofNat 103, Char.ofNat 48, Char.ofNat 48, Char.ofNat 57, Char.ofNat 57, Char.ofNat 49, Char.ofNat 47, Char.ofNat 108, Char.ofNat 97, Char.ofNat 119, Char.ofNat 115, Char.ofNat 46, Char.ofNat 70, Char.ofNat 110, Char.ofNat 68, Char.ofNat 105, Char.ofNat 97, Char.ofNat 103, Char.ofNat 111, Char.ofNat 110, Char.ofNat 97, Char.ofNat 108, Char.ofNat 115] := by kernel_rfl

theorem initSigns : Try.prog.initOrder = String.ofList isig := initLit.trans litSigns

theorem cut1 : (wordCutB isig).isSome = true := by kernel_rfl
theorem cut2 : (wordCutB (rest1 isig)).isSome = true := by kernel_rfl
theorem cut3 : (wordCutB (rest1 (rest1 isig))).isSome = true := by kernel_rfl
theorem w1_ok : word1 isig = "harness".toList := by kernel_rfl
theorem w2_ok : isSumSigns (word1 (rest1 isig)) = true := by kernel_rfl
theorem w3_ok : word1 (rest1 (rest1 isig)) = "cut".toList := by kernel_rfl
theorem harness_ok : ("harness".toList == "harness".toList || "harness".toList == "ownmain".toList) = true := by kernel_rfl

theorem behind_of (h s : List Char) (r : List (List Char)) (h1 : (h == "harness".toList || h == "ownmain".toList) = true) (h2 : isSumSigns s = true) : behindMainWord (h :: s :: r) = r := by
  show (if (h == "harness".toList || h == "ownmain".toList) && isSumSigns s then r else h :: s :: r) = r
  rw [h1, h2]
  rfl

theorem behind : ∃ rest, behindMainWord (wordsSigns Try.prog.initOrder.toList) = "cut".toList :: rest := by
  rw [initSigns, String.toList_ofList, words_cut _ cut1, words_cut _ cut2, words_cut _ cut3, w1_ok, w3_ok]
  exact ⟨_, behind_of _ _ _ harness_ok w2_ok⟩

theorem e1 : ("cut".toList == "gc".toList) = false := by kernel_rfl
theorem e2 : ("cut".toList == "spec".toList) = false := by kernel_rfl
theorem e3 : ("cut".toList == "cut".toList) = true := by kernel_rfl
theorem e4 : ("cut".toList == "carried".toList) = false := by kernel_rfl
theorem e5 (rest : List (List Char)) : stripLifts liftWords ("cut".toList :: rest) = ([], "cut".toList :: rest) := by kernel_rfl
theorem e6 : Try.prog.laysLater = false := by kernel_rfl
theorem e7 : Try.prog.bearsReflect = false := by kernel_rfl
theorem e8 : Try.prog.doorFits [] = true := by kernel_rfl

theorem mayEnter_of (P : Program) (rest : List (List Char)) (h : behindMainWord (wordsSigns P.initOrder.toList) = "cut".toList :: rest) (h1 : P.laysLater = false) (h2 : P.bearsReflect = false) (h3 : P.doorFits [] = true) : P.mayEnter = true := by
  unfold Program.mayEnter
  rw [h]
  simp only [e1, e2, e4, e5, h1, h2, h3, List.head?_cons, beq_self_eq_true, Bool.or_self, Bool.false_and, Bool.true_and, Bool.and_self, Bool.not_false, Bool.or_true, Bool.false_or]
  rfl

theorem lifts_of (P : Program) (rest : List (List Char)) (h : behindMainWord (wordsSigns P.initOrder.toList) = "cut".toList :: rest) : P.liftsFinal = false := by
  unfold Program.liftsFinal Program.headLifts
  rw [h]
  kernel_rfl

theorem make_of (P : Program) (rest : List (List Char)) (h : behindMainWord (wordsSigns P.initOrder.toList) = "cut".toList :: rest) : P.make = some .cut := by
  unfold Program.make
  rw [h]
  simp only [e1, e2, e3, Bool.or_self, Bool.true_or, Bool.false_eq_true, if_true, if_false]

theorem mayEnter_ok : Try.prog.mayEnter = true :=
  let ⟨rest, h⟩ := behind
  mayEnter_of _ rest h e6 e7 e8

theorem lifts_ok : Try.prog.liftsFinal = false :=
  let ⟨rest, h⟩ := behind
  lifts_of _ rest h

theorem make_ok : Try.prog.make = some .cut :=
  let ⟨rest, h⟩ := behind
  make_of _ rest h

end Go.Proofs.Ytjccilpjaaiicaa

namespace Go.Proofs.Ytjccilpjaaiicaa
open Go.RowKit

def inB (x lo hi : Int) : Bool := decide (lo ≤ x) && decide (x ≤ hi)
def pok (x y : Int) : Bool := inB x (-40) 40 && inB y (-40) 40
def turnW (ax ay bx by_ cx cy : Int) : Int := wrap64 (wrap64 (wrap64 (bx - ax) * wrap64 (cy - ay)) - wrap64 (wrap64 (by_ - ay) * wrap64 (cx - ax)))
def sqW (ax ay bx by_ : Int) : Int := wrap64 (wrap64 (wrap64 (ax - bx) * wrap64 (ax - bx)) + wrap64 (wrap64 (ay - by_) * wrap64 (ay - by_)))
def onW (px py ax ay bx by_ : Int) : Bool := decide (turnW ax ay bx by_ px py = 0) && (inB px (min ax bx) (max ax bx) && inB py (min ay by_) (max ay by_))
def sqS (ax ay bx by_ : Int) : Int := wrap64 (wrap64 (wrap64 (bx - ax) * wrap64 (bx - ax)) + wrap64 (wrap64 (by_ - ay) * wrap64 (by_ - ay)))
def pok2 (ax ay bx by_ : Int) : Bool := pok ax ay && pok bx by_
def pok3 (ax ay bx by_ cx cy : Int) : Bool := pok ax ay && (pok bx by_ && pok cx cy)

theorem w64 (x : Int) (h1 : -9223372036854775808 ≤ x) (h2 : x < 9223372036854775808) : wrap64 x = x := by
  unfold wrap64
  omega

theorem mul_bd (a b A B : Int) (h1 : -A ≤ a) (h2 : a ≤ A) (h3 : -B ≤ b) (h4 : b ≤ B) : -(A * B) ≤ a * b ∧ a * b ≤ A * B := by
  have hA : (0 : Int) ≤ A := by omega
  have hB : (0 : Int) ≤ B := by omega
  have h : (a * b).natAbs ≤ (A * B).natAbs := by
    rw [Int.natAbs_mul, Int.natAbs_mul]
    exact Nat.mul_le_mul (by omega) (by omega)
  have hAB : 0 ≤ A * B := Int.mul_nonneg hA hB
  omega

theorem pok_iff (x y : Int) : pok x y = true ↔ (-40 ≤ x ∧ x ≤ 40) ∧ (-40 ≤ y ∧ y ≤ 40) := by
  simp [pok, inB]

/-- points of which both coordinates lie within M -/
def within (M x y : Int) : Prop := (-M ≤ x ∧ x ≤ M) ∧ (-M ≤ y ∧ y ≤ M)
theorem within_of_pok {x y : Int} (h : pok x y = true) : within 40 x y := (pok_iff x y).1 h

def turnZ (ax ay bx by_ cx cy : Int) : Int := (bx - ax) * (cy - ay) - (by_ - ay) * (cx - ax)
def sqZ (ax ay bx by_ : Int) : Int := (ax - bx) * (ax - bx) + (ay - by_) * (ay - by_)

theorem turnW_eq {ax ay bx by_ cx cy : Int} (h1 : within 1000000 ax ay) (h2 : within 1000000 bx by_) (h3 : within 1000000 cx cy) : turnW ax ay bx by_ cx cy = turnZ ax ay bx by_ cx cy := by
  obtain ⟨⟨a1, a2⟩, a3, a4⟩ := h1
  obtain ⟨⟨b1, b2⟩, b3, b4⟩ := h2
  obtain ⟨⟨c1, c2⟩, c3, c4⟩ := h3
  have m1 := mul_bd (bx - ax) (cy - ay) 2000000 2000000 (by omega) (by omega) (by omega) (by omega)
  have m2 := mul_bd (by_ - ay) (cx - ax) 2000000 2000000 (by omega) (by omega) (by omega) (by omega)
  unfold turnW turnZ
  rw [w64 (bx - ax) (by omega) (by omega), w64 (cy - ay) (by omega) (by omega), w64 (by_ - ay) (by omega) (by omega), w64 (cx - ax) (by omega) (by omega)]
  generalize (bx - ax) * (cy - ay) = p at *
  generalize (by_ - ay) * (cx - ax) = q at *
  rw [w64 p (by omega) (by omega), w64 q (by omega) (by omega), w64 (p - q) (by omega) (by omega)]

theorem sqW_eq {ax ay bx by_ : Int} (h1 : within 1000000 ax ay) (h2 : within 1000000 bx by_) : sqW ax ay bx by_ = sqZ ax ay bx by_ := by
  obtain ⟨⟨a1, a2⟩, a3, a4⟩ := h1
  obtain ⟨⟨b1, b2⟩, b3, b4⟩ := h2
  have m1 := mul_bd (ax - bx) (ax - bx) 2000000 2000000 (by omega) (by omega) (by omega) (by omega)
  have m2 := mul_bd (ay - by_) (ay - by_) 2000000 2000000 (by omega) (by omega) (by omega) (by omega)
  unfold sqW sqZ
  rw [w64 (ax - bx) (by omega) (by omega), w64 (ay - by_) (by omega) (by omega)]
  generalize (ax - bx) * (ax - bx) = p at *
  generalize (ay - by_) * (ay - by_) = q at *
  rw [w64 p (by omega) (by omega), w64 q (by omega) (by omega), w64 (p + q) (by omega) (by omega)]

theorem sqS_sqW (ax ay bx by_ : Int) : sqS ax ay bx by_ = sqW bx by_ ax ay := rfl

theorem sqZ_comm (ax ay bx by_ : Int) : sqZ ax ay bx by_ = sqZ bx by_ ax ay := by
  unfold sqZ
  have e1 : ax - bx = -(bx - ax) := by omega
  have e2 : ay - by_ = -(by_ - ay) := by omega
  rw [e1, e2, Int.neg_mul_neg, Int.neg_mul_neg]

theorem within_more {M N x y : Int} (h : within M x y) (hm : M ≤ N) : within N x y := by
  unfold within at *
  omega

theorem sqS_eq {ax ay bx by_ : Int} (h : pok2 ax ay bx by_ = true) : sqS ax ay bx by_ = sqW ax ay bx by_ := by
  unfold pok2 at h
  rw [Bool.and_eq_true] at h
  have h1 := within_more (within_of_pok h.1) (N := 1000000) (by omega)
  have h2 := within_more (within_of_pok h.2) (N := 1000000) (by omega)
  rw [sqS_sqW, sqW_eq h2 h1, sqW_eq h1 h2, sqZ_comm]

/-- SquareOf, as both texts give it -/
def SqV (ax ay bx by_ : Int) : Int := if pok2 ax ay bx by_ = true then sqW ax ay bx by_ else -1
/-- TurnOf, as both texts give it -/
def TurnV (ax ay bx by_ cx cy : Int) : Int := if pok3 ax ay bx by_ cx cy = true then turnW ax ay bx by_ cx cy else 0
/-- IsBetween, as both texts give it -/
def BetV (ax ay bx by_ cx cy : Int) : Bool := pok3 ax ay bx by_ cx cy && onW ax ay bx by_ cx cy
/-- IsNearer, as both texts give it -/
def nearW (ax ay bx by_ cx cy : Int) : Bool := (pok3 ax ay bx by_ cx cy && decide (sqW ax ay bx by_ < sqW ax ay cx cy))
def neB (a b c d : Int) : Bool := !(a == c && b == d)
/-- WallOk, as both texts give it -/
def wok (a b c d : Int) : Bool := pok2 a b c d && neB a b c d
/-- LengthSquare, as both texts give it -/
def LenV (a b c d : Int) : Int := if wok a b c d = true then sqW a b c d else -1

theorem SqV_spec (ax ay bx by_ : Int) : (if pok2 ax ay bx by_ = true then sqS ax ay bx by_ else -1) = SqV ax ay bx by_ := by
  unfold SqV
  split
  · rename_i h; exact sqS_eq h
  · rfl

theorem LenV_spec (a b c d : Int) : (if wok a b c d = true then sqS a b c d else -1) = LenV a b c d := by
  unfold LenV
  split
  · rename_i h
    unfold wok at h
    rw [Bool.and_eq_true] at h
    exact sqS_eq h.1
  · rfl

end Go.Proofs.Ytjccilpjaaiicaa

namespace Go.Proofs.Ytjccilpjaaiicaa
open Go.RowKit

theorem ret_bool {a b : Bool} (h : a = b) : Ending.returned (.bool a) = .returned (.bool b) := by rw [h]
theorem ret_int {k : IntKind} {a b : Int} (h : a = b) : Ending.returned (.int k a) = .returned (.int k b) := by rw [h]

theorem between_any (n lo hi : Int) (w : World) :
    Calls Try.prog 33 #[.int .i64 n, .int .i64 lo, .int .i64 hi] w fun e w' => e = .returned (.bool (inB n lo hi)) ∧ w = w' := by
  go_enter Try.func33, Try.ntmps33
  go_wp2
  all_goals (go_ret; refine ⟨?_, rfl⟩; simp [inB, *]; try omega)

theorem l01In_any (n lo hi : Int) (w : World) :
    Calls Try.prog 52 #[.int .i64 n, .int .i64 lo, .int .i64 hi] w fun e w' => e = .returned (.bool (inB n lo hi)) ∧ w = w' := by
  go_enter Try.func52, Try.ntmps52
  go_wp2
  all_goals (go_ret; refine ⟨?_, rfl⟩; simp [inB, *]; try omega)

theorem pok_any (x y : Int) (w : World) :
    Calls Try.prog 41 #[.agg #[.int .i64 x, .int .i64 y]] w fun e w' => e = .returned (.bool (pok x y)) ∧ Ext w w' := by
  go_enter Try.func41, Try.ntmps41
  go_wp2_with (go_at_call 33; refine (between_any _ _ _ _).mono ?_; rintro e w' ⟨rfl, rfl⟩)
  all_goals (go_ret; refine ⟨?_, ?_⟩; simp [pok, *]; (repeat (first | exact Ext.refl _ | assumption | apply Ext.alloc | apply Ext.drew | apply Ext.drewN | (refine Ext.trans ?_ (by assumption)))))

theorem spok_any (x y : Int) (w : World) :
    Calls Try.prog 53 #[.agg #[.int .i64 x, .int .i64 y]] w fun e w' => e = .returned (.bool (pok x y)) ∧ Ext w w' := by
  go_enter Try.func53, Try.ntmps53
  go_wp2_with (go_at_call 52; refine (l01In_any _ _ _ _).mono ?_; rintro e w' ⟨rfl, rfl⟩)
  all_goals (go_ret; refine ⟨?_, ?_⟩; simp [pok, *]; (repeat (first | exact Ext.refl _ | assumption | apply Ext.alloc | apply Ext.drew | apply Ext.drewN | (refine Ext.trans ?_ (by assumption)))))

theorem turn_any (ax ay bx by_ cx cy : Int) (w : World) :
    Calls Try.prog 34 #[.agg #[.int .i64 ax, .int .i64 ay], .agg #[.int .i64 bx, .int .i64 by_], .agg #[.int .i64 cx, .int .i64 cy]] w fun e w' => e = .returned (.int .i64 (turnW ax ay bx by_ cx cy)) ∧ Ext w w' := by
  go_enter Try.func34, Try.ntmps34
  go_wp2
  go_ret
  exact ⟨rfl, by (repeat (first | exact Ext.refl _ | assumption | apply Ext.alloc | apply Ext.drew | apply Ext.drewN | (refine Ext.trans ?_ (by assumption))))⟩

theorem sturn_any (ax ay bx by_ cx cy : Int) (w : World) :
    Calls Try.prog 54 #[.agg #[.int .i64 ax, .int .i64 ay], .agg #[.int .i64 bx, .int .i64 by_], .agg #[.int .i64 cx, .int .i64 cy]] w fun e w' => e = .returned (.int .i64 (turnW ax ay bx by_ cx cy)) ∧ Ext w w' := by
  go_enter Try.func54, Try.ntmps54
  go_wp2
  go_ret
  exact ⟨rfl, by (repeat (first | exact Ext.refl _ | assumption | apply Ext.alloc | apply Ext.drew | apply Ext.drewN | (refine Ext.trans ?_ (by assumption))))⟩

theorem square_any (ax ay bx by_ : Int) (w : World) :
    Calls Try.prog 62 #[.agg #[.int .i64 ax, .int .i64 ay], .agg #[.int .i64 bx, .int .i64 by_]] w fun e w' => e = .returned (.int .i64 (sqW ax ay bx by_)) ∧ Ext w w' := by
  go_enter Try.func62, Try.ntmps62
  go_wp2
  go_ret
  exact ⟨rfl, by (repeat (first | exact Ext.refl _ | assumption | apply Ext.alloc | apply Ext.drew | apply Ext.drewN | (refine Ext.trans ?_ (by assumption))))⟩

theorem on_any (px py ax ay bx by_ : Int) (w : World) :
    Calls Try.prog 51 #[.agg #[.int .i64 px, .int .i64 py], .agg #[.int .i64 ax, .int .i64 ay], .agg #[.int .i64 bx, .int .i64 by_]] w fun e w' => e = .returned (.bool (onW px py ax ay bx by_)) ∧ Ext w w' := by
  go_enter Try.func51, Try.ntmps51
  go_wp2_with (first
    | (go_at_call 34; refine (turn_any _ _ _ _ _ _ _).mono ?_; rintro e w1 ⟨rfl, hb⟩; have hc := hb.cells; have hz := hb.size; (try simp at hz))
    | (go_at_call 33; refine (between_any _ _ _ _).mono ?_; rintro e w' ⟨rfl, rfl⟩))
  all_goals (go_ret; refine ⟨ret_bool ?_, ?_⟩)
  all_goals (first | ((repeat (first | exact Ext.refl _ | assumption | apply Ext.alloc | apply Ext.drew | apply Ext.drewN | (refine Ext.trans ?_ (by assumption)))); done) | (clear hc hz hb; simp only [onW, inB, Bool.and_eq_true, decide_eq_true_eq, Bool.and_eq_true] at *; rw [Bool.eq_iff_iff]; simp only [Bool.and_eq_true, decide_eq_true_eq, Bool.false_eq_true, false_iff]; omega))

theorem sbet_any (px py ax ay bx by_ : Int) (w : World) :
    Calls Try.prog 67 #[.agg #[.int .i64 px, .int .i64 py], .agg #[.int .i64 ax, .int .i64 ay], .agg #[.int .i64 bx, .int .i64 by_]] w fun e w' => e = .returned (.bool (onW px py ax ay bx by_)) ∧ Ext w w' := by
  go_enter Try.func67, Try.ntmps67
  go_wp2_with (first
    | (go_at_call 54; refine (sturn_any _ _ _ _ _ _ _).mono ?_; rintro e w1 ⟨rfl, hb⟩; have hc := hb.cells; have hz := hb.size; (try simp at hz))
    | (go_at_call 52; refine (l01In_any _ _ _ _).mono ?_; rintro e w' ⟨rfl, rfl⟩))
  all_goals (go_ret; refine ⟨ret_bool ?_, ?_⟩)
  all_goals (first | ((repeat (first | exact Ext.refl _ | assumption | apply Ext.alloc | apply Ext.drew | apply Ext.drewN | (refine Ext.trans ?_ (by assumption)))); done) | (clear hc hz hb; simp only [onW, inB, Bool.and_eq_true, decide_eq_true_eq, Bool.and_eq_true] at *; rw [Bool.eq_iff_iff]; simp only [Bool.and_eq_true, decide_eq_true_eq, Bool.false_eq_true, false_iff]; omega))

end Go.Proofs.Ytjccilpjaaiicaa

namespace Go.Proofs.Ytjccilpjaaiicaa
open Go.RowKit

/-- Block g is a row of cells of type T, not frozen, that begins with the points of l. -/
def OwnP (w : World) (g : Nat) (T : TypeId) (l : List (Int × Int)) : Prop :=
  ∃ cs : Array Value, w.heap[g]? = some (.cells cs T (0, 0)) ∧ l.length * 2 ≤ cs.size ∧ ∀ k, k < l.length → cs[k * 2]? = some (.int .i64 (gx l k)) ∧ cs[k * 2 + 1]? = some (.int .i64 (gy l k))

section
variable {w w' : World} {g : Nat} {T : TypeId} {l : List (Int × Int)}

theorem OwnP.lt (h : OwnP w g T l) : g < w.heap.size := by
  obtain ⟨cs, h1, _⟩ := h
  rcases Nat.lt_or_ge g w.heap.size with h2 | h2
  · exact h2
  · rw [Array.getElem?_eq_none h2] at h1; cases h1

theorem OwnP.cellx (h : OwnP w g T l) {k : Nat} (hk : k < l.length) : w.cell? ⟨g, k * 2, none⟩ = some (.int .i64 (gx l k)) := by
  obtain ⟨cs, h1, _, h3⟩ := h
  simp [World.cell?, h1, (h3 k hk).1]

theorem OwnP.celly (h : OwnP w g T l) {k : Nat} (hk : k < l.length) : w.cell? ⟨g, k * 2 + 1, none⟩ = some (.int .i64 (gy l k)) := by
  obtain ⟨cs, h1, _, h3⟩ := h
  simp [World.cell?, h1, (h3 k hk).2]

theorem OwnP.ptsAt (h : OwnP w g T l) : PtsAt w g 0 l := fun k hk => by
  rw [Nat.zero_add]; exact ⟨h.cellx hk, h.celly hk⟩

theorem OwnP.frozen (h : OwnP w g T l) (o : Nat) : w.frozen? ⟨g, o, none⟩ = false := by
  obtain ⟨cs, h1, _⟩ := h
  simp [World.frozen?, h1]

theorem OwnP.same (h : OwnP w g T l) (hb : w'.heap[g]? = w.heap[g]?) : OwnP w' g T l := by
  obtain ⟨cs, h1, h2⟩ := h
  exact ⟨cs, hb.trans h1, h2⟩

theorem OwnP.ext (h : OwnP w g T l) (hx : Ext w w') : OwnP w' g T l := h.same (hx.below.block g h.lt)
theorem OwnP.alloc (h : OwnP w g T l) (o : Obj) : OwnP (w.alloc o) g T l := h.ext ((Ext.refl w).alloc o)
theorem OwnP.grown (h : OwnP w g T l) {r : Option Nat} (hg : w.grownBy w' r) (hr : r ≠ some g) : OwnP w' g T l := h.same (hg.block g h.lt (fun e => hr e.symm))

theorem gx_set (l : List (Int × Int)) (k j : Nat) (x y : Int) (hk : k < l.length) : gx (l.set k (x, y)) j = if j = k then x else gx l j := by
  unfold gx
  simp only [List.getD_eq_getElem?_getD, List.getElem?_set]
  by_cases e : k = j
  · subst e; simp [hk]
  · rw [if_neg e, if_neg (fun h => e h.symm)]

theorem gy_set (l : List (Int × Int)) (k j : Nat) (x y : Int) (hk : k < l.length) : gy (l.set k (x, y)) j = if j = k then y else gy l j := by
  unfold gy
  simp only [List.getD_eq_getElem?_getD, List.getElem?_set]
  by_cases e : k = j
  · subst e; simp [hk]
  · rw [if_neg e, if_neg (fun h => e h.symm)]

theorem OwnP.setX (h : OwnP w g T l) {k : Nat} (hk : k < l.length) (x : Int) : OwnP (w.setCell ⟨g, k * 2, none⟩ (.int .i64 x)) g T (l.set k (x, gy l k)) := by
  obtain ⟨cs, h1, h2, h3⟩ := h
  refine ⟨cs.setIfInBounds (k * 2) (.int .i64 x), by simp [World.setCell, Array.getElem?_modify, h1], by simpa using h2, fun j hj => ?_⟩
  rw [List.length_set] at hj
  rw [gx_set l k j _ _ hk, gy_set l k j _ _ hk, Array.getElem?_setIfInBounds, Array.getElem?_setIfInBounds]
  obtain ⟨a1, a2⟩ := h3 j hj
  constructor
  · by_cases e : j = k
    · subst e; rw [if_pos rfl, if_pos (by omega), if_pos rfl]
    · rw [if_neg (by omega), if_neg e]; exact a1
  · rw [if_neg (by omega)]
    by_cases e : j = k
    · subst e; rw [if_pos rfl]; exact a2
    · rw [if_neg e]; exact a2

theorem OwnP.setY (h : OwnP w g T l) {k : Nat} (hk : k < l.length) (y : Int) : OwnP (w.setCell ⟨g, k * 2 + 1, none⟩ (.int .i64 y)) g T (l.set k (gx l k, y)) := by
  obtain ⟨cs, h1, h2, h3⟩ := h
  refine ⟨cs.setIfInBounds (k * 2 + 1) (.int .i64 y), by simp [World.setCell, Array.getElem?_modify, h1], by simpa using h2, fun j hj => ?_⟩
  rw [List.length_set] at hj
  rw [gx_set l k j _ _ hk, gy_set l k j _ _ hk, Array.getElem?_setIfInBounds, Array.getElem?_setIfInBounds]
  obtain ⟨a1, a2⟩ := h3 j hj
  constructor
  · rw [if_neg (by omega)]
    by_cases e : j = k
    · subst e; rw [if_pos rfl]; exact a1
    · rw [if_neg e]; exact a1
  · by_cases e : j = k
    · subst e; rw [if_pos rfl, if_pos (by omega), if_pos rfl]
    · rw [if_neg (by omega), if_neg e]; exact a2

theorem set_set_xy (l : List (Int × Int)) (k : Nat) (x y : Int) (hk : k < l.length) : (l.set k (x, gy l k)).set k (gx (l.set k (x, gy l k)) k, y) = l.set k (x, y) := by
  rw [List.set_set, gx_set l k k _ _ hk, if_pos rfl]

theorem OwnP.setXY (h : OwnP w g T l) {k : Nat} (hk : k < l.length) (x y : Int) : OwnP ((w.setCell ⟨g, k * 2, none⟩ (.int .i64 x)).setCell ⟨g, k * 2 + 1, none⟩ (.int .i64 y)) g T (l.set k (x, y)) := by
  have := (h.setX hk x).setY (k := k) (by simpa using hk) y
  rwa [set_set_xy l k x y hk] at this
end

/-- a new row of n zero points -/
theorem ownP_made (w : World) (T : TypeId) (n : Nat) : OwnP (w.alloc (.cells (madeCells #[.int .i64 0, .int .i64 0] (n * 2)) T)) w.heap.size T (List.replicate n (0, 0)) := by
  refine ⟨madeCells #[.int .i64 0, .int .i64 0] (n * 2), heap_alloc_new w _, by simp [size_madeCells], fun k hk => ?_⟩
  rw [List.length_replicate] at hk
  have e1 : gx (List.replicate n (0, 0)) k = 0 := by simp [gx, List.getD_eq_getElem?_getD, hk]
  have e2 : gy (List.replicate n (0, 0)) k = 0 := by simp [gy, List.getD_eq_getElem?_getD, hk]
  rw [e1, e2]
  have z1 : k * 2 % 2 = 0 := by omega
  have z2 : (k * 2 + 1) % 2 = 1 := by omega
  unfold madeCells
  constructor
  · simp [show k * 2 < n * 2 from by omega, z1]
  · simp [show k * 2 + 1 < n * 2 from by omega, z2]

/-- The slice '.slice A l.length c' owns the points of l: its block lies in [lo, hi). -/
def OwnS (w : World) (lo hi : Nat) (T : TypeId) (A : Option Addr) (l : List (Int × Int)) : Prop :=
  0 < l.length → ∃ g, A = some ⟨g, 0, none⟩ ∧ lo ≤ g ∧ g < hi ∧ OwnP w g T l

section
variable {w w' : World} {lo hi lo' hi' : Nat} {T : TypeId} {A : Option Addr} {l : List (Int × Int)}
theorem OwnS.pts (h : OwnS w lo hi T A l) : Pts w lo hi A l := fun hl =>
  let ⟨g, e, h1, h2, h3⟩ := h hl
  ⟨g, 0, e, h1, h2, h3.ptsAt⟩
theorem OwnS.r (h : OwnS w lo hi T A l) (hh : hi ≤ w.heap.size) : RPts w A l := h.pts.r hh
theorem OwnS.ext (h : OwnS w lo hi T A l) (hx : Ext w w') : OwnS w' lo hi T A l := fun hl =>
  let ⟨g, e, h1, h2, h3⟩ := h hl
  ⟨g, e, h1, h2, h3.ext hx⟩
theorem OwnS.more (h : OwnS w lo hi T A l) (h1 : lo' ≤ lo) (h2 : hi ≤ hi') : OwnS w lo' hi' T A l := fun hl =>
  let ⟨g, e, a1, a2, h3⟩ := h hl
  ⟨g, e, by omega, by omega, h3⟩
theorem OwnS.set_below (h : OwnS w lo hi T A l) {p : Addr} (hp : p.block < lo) (u : Value) : OwnS (w.setCell p u) lo hi T A l := fun hl =>
  let ⟨g, e, a1, a2, h3⟩ := h hl
  ⟨g, e, a1, a2, h3.same (Below.heap_setCell _ _ _ _ (by omega))⟩
theorem size_setCell (w : World) (p : Addr) (u : Value) : (w.setCell p u).heap.size = w.heap.size := by simp [World.setCell]
theorem OwnS.nil : OwnS w lo hi T A [] := fun h => absurd h (by simp)
theorem OwnS.hi_size (h : OwnS w lo hi T A l) : OwnS w lo w.heap.size T A l := fun hl =>
  let ⟨g, e, a1, _, h3⟩ := h hl
  ⟨g, e, a1, h3.lt, h3⟩
/-- a change to one block outside of the range -/
theorem OwnS.grown (h : OwnS w lo hi T A l) {g : Nat} (hg : w.grownBy w' (some g)) (hr : g < lo ∨ hi ≤ g) : OwnS w' lo hi T A l := fun hl =>
  let ⟨g', e, a1, a2, h3⟩ := h hl
  ⟨g', e, a1, a2, h3.grown hg (fun e => by injection e with e; omega)⟩
theorem Pts.grown (h : Pts w lo hi A l) {g : Nat} (hg : w.grownBy w' (some g)) (hr : g < lo ∨ hi ≤ g) (hh : hi ≤ w.heap.size) : Pts w' lo hi A l := fun hl =>
  let ⟨b, off, e, a1, a2, h3⟩ := h hl
  ⟨b, off, e, a1, a2, fun k hk => ⟨(World.cell?_of_block (w := w) (a := ⟨b, off + k * 2, none⟩) (hg.block b (by omega) (fun e => by injection e with e; omega))).trans (h3 k hk).1,
    (World.cell?_of_block (w := w) (a := ⟨b, off + k * 2 + 1, none⟩) (hg.block b (by omega) (fun e => by injection e with e; omega))).trans (h3 k hk).2⟩⟩
end

theorem run_makeRow {P : Program} (t e : TypeId) (i : TypeInfo) (z : Value) (ht : P.underlying t = some (.slice e)) (hi : P.info? e = some i) (hz : i.zero = some z)
    (kl kc : IntKind) (n c : Nat) (hnc : n ≤ c) (hbytes : i.bytes * c ≤ 281474976710656) (h63 : c ≤ 9223372036854775807) (w : World) :
    (Instr.makeSlice t (.int kl (n : Int)) (.int kc (c : Int))).run P w = .ok (.slice (some ⟨w.heap.size, 0, none⟩) n c) (w.alloc (.cells (madeCells z.cells (c * i.size)) e)) := by
  have hb : (i.bytes : Int) * (c : Int) ≤ 281474976710656 := by
    have h : ((i.bytes * c : Nat) : Int) ≤ 281474976710656 := by omega
    rwa [Int.natCast_mul] at h
  have hr := run_make (P := P) w t e i z ht hi hz kl kc n c (by omega) (by omega) hb (by omega)
  simp only [Int.toNat_natCast] at hr
  exact hr

end Go.Proofs.Ytjccilpjaaiicaa

namespace Go.Proofs.Ytjccilpjaaiicaa
open Go.RowKit

def upd (u : Nat → Value) (i : Nat) (v : Value) : Nat → Value := fun j => if j = i then v else u j

/-- a predicate that says: just this value -/
def is (x : Value) (v : Value) (_ : World) : Prop := v = x

section
variable {P : Program} {ops : Array Oper} {Q : Exit → Act → World → Prop}

/-- What is owed at operation i. -/
def FStep (P : Program) (ops : Array Oper) (Q : Exit → Act → World → Prop) (fr : (Nat → Value) → Act) (V : Nat → Value → World → Prop) (C : World → Prop) (W : World) (i : Nat) (o : Oper) : Prop :=
  ∀ (u : Nat → Value) (w : World), Ext W w → C w → (∀ e ∈ o.after.toList, Region.binds .any e = true → V e.on (u e.on) w) → ∀ K : Act → World → Prop, (∀ v w', V i v w' → Ext w w' → K (fr (upd u i v)) w') →
    if Region.wanted o (yielded ops (fr u).tmps) then o.wp P (fr u) w K Q else K ((fr u).put o.dst undef) w

def FSteps (P : Program) (ops : Array Oper) (Q : Exit → Act → World → Prop) (fr : (Nat → Value) → Act) (V : Nat → Value → World → Prop) (C : World → Prop) (W : World) : Nat → List Oper → Prop
  | _, [] => True
  | i, o :: l => FStep P ops Q fr V C W i o ∧ FSteps P ops Q fr V C W (i + 1) l

theorem FSteps.get {fr : (Nat → Value) → Act} {V : Nat → Value → World → Prop} {C : World → Prop} {W : World} : ∀ (l : List Oper) (n : Nat), FSteps P ops Q fr V C W n l → ∀ (i : Nat) (o : Oper), l[i]? = some o → FStep P ops Q fr V C W (n + i) o
  | [], _, _, i, o, h => by simp at h
  | x :: l, n, hs, 0, o, h => by
    simp at h
    subst h
    exact hs.1
  | x :: l, n, hs, i + 1, o, h => by
    have := FSteps.get l (n + 1) hs.2 i o (by simpa using h)
    rw [show n + 1 + i = n + (i + 1) from by omega] at this
    exact this

theorem ready_of {md : Region.Mode} {listed : Array Bool} {i : Nat} (h : i ∈ Region.ready md ops listed) : i < ops.size ∧ listed.getD i true = false ∧ ∀ o, ops[i]? = some o → ∀ e ∈ o.after.toList, Region.binds md e = true → listed.getD e.on false = true := by
  unfold Region.ready at h
  simp only [List.mem_filter, List.mem_range, Bool.and_eq_true, Bool.not_eq_eq_eq_not, Bool.not_true] at h
  obtain ⟨h1, h2, h3⟩ := h
  refine ⟨h1, h2, fun o ho e he hb => ?_⟩
  rw [ho] at h3
  simp only [Option.map_some, Option.getD_some, Array.all_eq_true_iff_forall_mem] at h3
  have := h3 e (by simpa using he)
  simpa [hb] using this

theorem count_set_true (l : List Bool) (i : Nat) (h : l[i]? = some false) : (l.set i true).count true = l.count true + 1 := by
  obtain ⟨hi, hv⟩ := List.getElem?_eq_some_iff.1 h
  rw [List.count_set hi, hv]
  simp

theorem all_of_count (l : List Bool) (h : l.count true = l.length) (i : Nat) (hi : i < l.length) : l[i]? = some true := by
  rw [List.count_eq_length] at h
  rw [List.getElem?_eq_getElem hi]
  rw [← h _ (List.getElem_mem hi)]

theorem FSteps.nil {fr : (Nat → Value) → Act} {V : Nat → Value → World → Prop} {C : World → Prop} {W : World} {i : Nat} : FSteps P ops Q fr V C W i [] := trivial
theorem FSteps.cons {fr : (Nat → Value) → Act} {V : Nat → Value → World → Prop} {C : World → Prop} {W : World} {i : Nat} {o : Oper} {l : List Oper} (h : FStep P ops Q fr V C W i o) (t : FSteps P ops Q fr V C W (i + 1) l) : FSteps P ops Q fr V C W i (o :: l) := ⟨h, t⟩

theorem FStep.plain {fr : (Nat → Value) → Act} {V : Nat → Value → World → Prop} {C : World → Prop} {W : World} {i : Nat} {o : Oper} (hg : o.guard = none)
    (h : ∀ (u : Nat → Value) (w : World), Ext W w → C w → (∀ e ∈ o.after.toList, Region.binds .any e = true → V e.on (u e.on) w) → ∀ K : Act → World → Prop, (∀ v w', V i v w' → Ext w w' → K (fr (upd u i v)) w') → o.wp P (fr u) w K Q) : FStep P ops Q fr V C W i o := by
  intro u w h1 h2 h3 K hK
  rw [if_pos (by simp [Region.wanted, hg])]
  exact h u w h1 h2 h3 K hK

theorem FStep.on_ {fr : (Nat → Value) → Act} {V : Nat → Value → World → Prop} {C : World → Prop} {W : World} {i : Nat} {o : Oper} (j d : Nat) (b : Bool) (hg : o.guard = some (j, b)) (hj : (ops[j]?).bind (·.dst) = some d)
    (hy : ∀ (u : Nat → Value) (w : World), (∀ e ∈ o.after.toList, Region.binds .any e = true → V e.on (u e.on) w) → (fr u).tmps[d]? = some (.bool b))
    (h : ∀ (u : Nat → Value) (w : World), Ext W w → C w → (∀ e ∈ o.after.toList, Region.binds .any e = true → V e.on (u e.on) w) → ∀ K : Act → World → Prop, (∀ v w', V i v w' → Ext w w' → K (fr (upd u i v)) w') → o.wp P (fr u) w K Q) : FStep P ops Q fr V C W i o := by
  intro u w h1 h2 h3 K hK
  rw [if_pos (by simp [Region.wanted, hg, yielded, hj, hy u w h3])]
  exact h u w h1 h2 h3 K hK

theorem FStep.off_ {fr : (Nat → Value) → Act} {V : Nat → Value → World → Prop} {C : World → Prop} {W : World} {i : Nat} {o : Oper} (j d : Nat) (b : Bool) (hg : o.guard = some (j, b)) (hj : (ops[j]?).bind (·.dst) = some d)
    (hy : ∀ (u : Nat → Value) (w : World), (∀ e ∈ o.after.toList, Region.binds .any e = true → V e.on (u e.on) w) → (fr u).tmps[d]? = some (.bool !b) ∨ (fr u).tmps[d]? = some undef)
    (hp : ∀ u, (fr u).put o.dst undef = fr (upd u i undef)) (hv : ∀ w, V i undef w) : FStep P ops Q fr V C W i o := by
  intro u w h1 h2 h3 K hK
  rw [if_neg (by rcases hy u w h3 with h | h <;> cases b <;> simp [Region.wanted, hg, yielded, hj, h, undef]), hp]
  exact hK _ _ (hv w) (Ext.refl w)

/-- Every edge leads back. -/
def backB (ops : Array Oper) : Bool := (List.range ops.size).all fun i => match ops[i]? with | some o => o.after.all fun e => !Region.binds .any e || decide (e.on < i) | none => true

theorem all_listed {listed : Array Bool} (hz : listed.size = ops.size) (hb : backB ops = true) (hr : Region.ready .any ops listed = []) : ∀ i, i < ops.size → listed.getD i false = true := by
  intro i
  induction i using Nat.strongRecOn with
  | ind i ih =>
    intro hi
    have hnot : i ∉ Region.ready .any ops listed := by rw [hr]; simp
    unfold Region.ready at hnot
    simp only [List.mem_filter, List.mem_range, Bool.and_eq_true, not_and] at hnot
    have h1 := hnot hi
    have hl : i < listed.size := by omega
    cases hv : listed[i]'hl with
    | true => simp [Array.getD, hl, hv]
    | false =>
      exfalso
      refine h1 (by simp [Array.getD, hl, hv]) ?_
      have ho : ops[i]? = some (ops[i]'hi) := Array.getElem?_eq_getElem hi
      rw [ho]
      simp only [Option.map_some, Option.getD_some, Array.all_eq_true_iff_forall_mem]
      intro e he
      have hb1 := List.all_eq_true.1 hb i (List.mem_range.2 hi)
      rw [ho] at hb1
      simp only [Array.all_eq_true_iff_forall_mem, Bool.or_eq_true, Bool.not_eq_true', decide_eq_true_eq] at hb1
      rcases hb1 e he with hnb | hlt
      · simp [hnb]
      · rw [ih e.on hlt (by omega)]
        simp

/-- Every operation ahead of the tail is used by a later one up to the tail's first; in the tail each is used by the next. -/
def forcedB (ops : Array Oper) (m : Nat) : Bool :=
  (List.range (ops.size - 1)).all fun j => (List.range (max (j + 1) m + 1)).any fun i => decide (j < i) && (match ops[i]? with | some o => o.after.any (fun e => e.on == j && Region.binds .any e) | none => false)

/-- what has come up is closed under the edges -/
def DClosed (ops : Array Oper) (listed : Array Bool) : Prop := ∀ i o, listed.getD i false = true → ops[i]? = some o → ∀ e ∈ o.after.toList, Region.binds .any e = true → listed.getD e.on false = true

theorem forced {listed : Array Bool} {m i : Nat} (hf : forcedB ops m = true) (hc : DClosed ops listed) (hi : i ∈ Region.ready .any ops listed) (hm : m ≤ i) : ∀ j, j < i → listed.getD j false = true := by
  obtain ⟨h1, _, h3⟩ := ready_of hi
  have key : ∀ d j, j + d = i → 0 < d → listed.getD j false = true := by
    intro d
    induction d using Nat.strongRecOn with
    | ind d ih =>
      intro j hj hd
      have hb := List.all_eq_true.1 hf j (List.mem_range.2 (by omega))
      rw [List.any_eq_true] at hb
      obtain ⟨i', hi', hb⟩ := hb
      rw [List.mem_range] at hi'
      rw [Bool.and_eq_true, decide_eq_true_eq] at hb
      obtain ⟨hlt, hb⟩ := hb
      cases ho : ops[i']? with
      | none => rw [ho] at hb; cases hb
      | some o =>
        rw [ho] at hb
        simp only [Array.any_eq_true'] at hb
        obtain ⟨e, he, hb⟩ := hb
        rw [Bool.and_eq_true, beq_iff_eq] at hb
        obtain ⟨h4, h5⟩ := hb
        have hle : i' ≤ i := by omega
        by_cases heq : i' = i
        · subst heq
          have := h3 o ho e (by simpa using he) h5
          rwa [h4] at this
        · have hl := ih (i - i') (by omega) i' (by omega) (by omega)
          have := hc i' o hl ho e (by simpa using he) h5
          rwa [h4] at this
  intro j hj
  exact key (i - j) j (by omega) (by omega)

theorem wp_tail {m : Nat} (hb : backB ops = true) (hf : forcedB ops m = true) : ∀ (d i : Nat), i + d = ops.size → m ≤ i → ∀ (listed : Array Bool) (a : Act) (w : World), listed.size = ops.size →
    (∀ j, j < i → listed.getD j false = true) → (∀ j, i ≤ j → listed.getD j false = false) → wpList P ops Q (ops.toList.drop i) a w → wpAny P .any ops Q d listed a w
  | 0, i, hd, _, listed, a, w, hz, h1, _, h => by
    have hn : i = ops.size := by omega
    subst hn
    rw [List.drop_of_length_le (by simp)] at h
    refine ⟨?_, h⟩
    rw [List.eq_nil_iff_forall_not_mem]
    intro k hk
    obtain ⟨k1, k2, _⟩ := ready_of hk
    have k3 := h1 k k1
    have hl : k < listed.size := by omega
    simp [Array.getD, hl] at k2 k3
    rw [k2] at k3
    cases k3
  | d + 1, i, hd, hm, listed, a, w, hz, h1, h2, h => by
    have hi : i < ops.size := by omega
    have hil : i < listed.size := by omega
    have hcl : DClosed ops listed := by
      intro k o hk ho e he hbd
      refine h1 _ ?_
      have hk1 : k < i := by
        rcases Nat.lt_or_ge k i with hh | hh
        · exact hh
        · rw [h2 k hh] at hk; cases hk
      have hb1 := List.all_eq_true.1 hb k (List.mem_range.2 (by omega))
      rw [ho] at hb1
      simp only [Array.all_eq_true_iff_forall_mem, Bool.or_eq_true, Bool.not_eq_true', decide_eq_true_eq] at hb1
      rcases hb1 e (by simpa using he) with hnb | hlt
      · rw [hbd] at hnb; cases hnb
      · omega
    refine ⟨fun hr => ?_, fun k hk => ?_⟩
    · have := all_listed hz hb hr i hi
      rw [h2 i (Nat.le_refl _)] at this
      cases this
    · obtain ⟨k1, k2, _⟩ := ready_of hk
      have hkl : k < listed.size := by omega
      have hki : i ≤ k := by
        rcases Nat.lt_or_ge k i with hh | hh
        · exfalso
          have := h1 k hh
          simp [Array.getD, hkl] at k2 this
          rw [k2] at this
          cases this
        · exact hh
      have hke : k = i := by
        rcases Nat.lt_or_ge i k with hh | hh
        · exfalso
          have := forced hf hcl hk (by omega) i hh
          rw [h2 i (Nat.le_refl _)] at this
          cases this
        · omega
      subst hke
      have ho : ops[k]? = some (ops[k]'hi) := Array.getElem?_eq_getElem hi
      rw [List.drop_eq_getElem_cons (by simpa using hi)] at h
      simp only [Array.getElem_toList, wpList] at h
      have ih : ∀ a w, wpList P ops Q (ops.toList.drop (k + 1)) a w → wpAny P .any ops Q d (listed.setIfInBounds k true) a w := fun a w h => by
        refine wp_tail hb hf d (k + 1) (by omega) (by omega) _ a w (by simp [hz]) (fun j hj => ?_) (fun j hj => ?_) h
        · simp only [Array.getD_eq_getD_getElem?, Array.getElem?_setIfInBounds]
          by_cases e : k = j
          · rw [if_pos e, if_pos (by omega)]; rfl
          · rw [if_neg e]
            have := h1 j (by omega)
            simpa only [Array.getD_eq_getD_getElem?] using this
        · simp only [Array.getD_eq_getD_getElem?, Array.getElem?_setIfInBounds]
          rw [if_neg (by omega)]
          have := h2 j (by omega)
          simpa only [Array.getD_eq_getD_getElem?] using this
      refine wpOp_mono ih ?_
      unfold wpOp
      rw [ho]
      exact h

/-- the predicates, as a list -/
def vOf (l : List (Value → World → Prop)) (i : Nat) (v : Value) (w : World) : Prop := (l.getD i fun _ _ => False) v w
def Stable (p : Value → World → Prop) : Prop := ∀ v w w', p v w → Ext w w' → p v w'
theorem stable_is (x : Value) : Stable (is x) := fun _ _ _ h _ => h
theorem vOf_stable {l : List (Value → World → Prop)} (h : ∀ p ∈ l, Stable p) : ∀ i v w w', vOf l i v w → Ext w w' → vOf l i v w' := by
  intro i v w w' hv hx
  unfold vOf at *
  by_cases hi : i < l.length
  · rw [List.getD_eq_getElem?_getD, List.getElem?_eq_getElem hi] at *
    exact h _ (List.getElem_mem hi) v w w' hv hx
  · rw [List.getD_eq_getElem?_getD, List.getElem?_eq_none (by omega)] at *
    exact hv

theorem wp_region_flow {id : Nat} (hm : P.follows .mixedOrders = true) (hb : backB ops = true) (fr : (Nat → Value) → Act) (u0 : Nat → Value) (V : Nat → Value → World → Prop) (C : World → Prop) (W : World)
    (hC : ∀ w, Ext W w → C w) (hV : ∀ i v w w', V i v w → Ext w w' → V i v w')
    (hs : FSteps P ops Q fr V C W 0 ops.toList)
    (fin : ∀ u w, Ext W w → C w → (∀ i, i < ops.size → V i (u i) w) → Q .normal (fr u) w) : (Code.region id ops true).wp P Q (fr u0) W := by
  refine wp_region_any hm ?_
  have key : ∀ (fuel : Nat) (listed : Array Bool) (u : Nat → Value) (w : World), listed.size = ops.size → fuel + listed.toList.count true = ops.size → (∀ i, listed.getD i false = true → V i (u i) w) → Ext W w →
      wpAny P .any ops Q fuel listed (fr u) w := by
    intro fuel
    induction fuel with
    | zero =>
      intro listed u w hz hc hv hx
      have hall : ∀ i, i < ops.size → listed.getD i false = true := by
        intro i hi
        have := all_of_count listed.toList (by simp at hc ⊢; omega) i (by simp; omega)
        simp at this
        simp [Array.getD, hz, hi, (Array.getElem?_eq_some_iff.1 this).2]
      refine ⟨?_, fin u w hx (hC w hx) (fun i hi => hv i (hall i hi))⟩
      rw [List.eq_nil_iff_forall_not_mem]
      intro i hi
      obtain ⟨h1, h2, _⟩ := ready_of hi
      have h3 := hall i h1
      have hl : i < listed.size := by omega
      simp [Array.getD, hl] at h2 h3
      rw [h2] at h3
      cases h3
    | succ fuel ih =>
      intro listed u w hz hc hv hx
      refine ⟨fun hr => fin u w hx (hC w hx) (fun i hi => hv i (all_listed hz hb hr i hi)), fun i hi => ?_⟩
      obtain ⟨h1, h2, h3⟩ := ready_of hi
      have hl : i < listed.size := by omega
      have h2' : listed[i]'hl = false := by simpa [Array.getD, hl] using h2
      have ho : ops[i]? = some (ops[i]'h1) := Array.getElem?_eq_getElem h1
      have hst := FSteps.get ops.toList 0 hs i (ops[i]'h1) (by rw [Array.getElem?_toList]; exact ho)
      rw [Nat.zero_add] at hst
      have hgo := hst u w hx (hC w hx) (fun e he hbd => hv _ (h3 _ ho e he hbd)) (wpAny P .any ops Q fuel (listed.setIfInBounds i true)) (fun v w' hvi hx' => by
        refine ih _ _ _ (by simp [hz]) ?_ ?_ (hx.trans hx')
        · rw [Array.toList_setIfInBounds, count_set_true _ _ (by simp [Array.getElem?_eq_getElem hl, h2'])]
          omega
        · intro j hj
          by_cases e : j = i
          · subst e; simp only [upd, if_true]; exact hvi
          · have : listed.getD j false = true := by
              simp only [Array.getD_eq_getD_getElem?, Array.getElem?_setIfInBounds] at hj ⊢
              rwa [if_neg (by omega)] at hj
            simp only [upd, if_neg e]
            exact hV _ _ _ _ (hv j this) hx')
      unfold wpOp
      rw [ho]
      simp only
      split
      · rename_i hw
        rw [if_pos hw] at hgo
        exact .inl hgo
      · rename_i hw
        rw [if_neg hw] at hgo
        exact hgo
  refine key ops.size (Array.replicate ops.size false) u0 _ (by simp) (by simp [List.count_replicate]) ?_ (Ext.drew (Ext.refl W))
  intro i h
  exfalso
  simp only [Array.getD_eq_getD_getElem?, Array.getElem?_replicate] at h
  split at h <;> simp at h
/-- each slot meets its predicate -/
def AllV : List (Value → World → Prop) → Nat → (Nat → Value) → World → Prop
  | [], _, _, _ => True
  | p :: l, i, u, w => p (u i) w ∧ AllV l (i + 1) u w

theorem allV_of : ∀ (l : List (Value → World → Prop)) (n : Nat) (u : Nat → Value) (w : World), (∀ i, i < l.length → vOf l i (u (n + i)) w) → AllV l n u w
  | [], _, _, _, _ => trivial
  | p :: l, n, u, w, h => by
    refine ⟨h 0 (by simp), allV_of l (n + 1) u w fun i hi => ?_⟩
    have := h (i + 1) (by simpa using hi)
    rw [show n + (i + 1) = n + 1 + i from by omega] at this
    exact this

theorem wp_flow {id : Nat} (hm : P.follows .mixedOrders = true) (hb : backB ops = true) (fr : (Nat → Value) → Act) (u0 : Nat → Value) (l : List (Value → World → Prop)) (C : World → Prop) (W : World) (hl : ops.size = l.length)
    (hC : ∀ w, Ext W w → C w) (hs : FSteps P ops Q fr (vOf l) C W 0 ops.toList) (hV : ∀ p ∈ l, Stable p)
    (fin : ∀ u w, Ext W w → C w → AllV l 0 u w → Q .normal (fr u) w) : (Code.region id ops true).wp P Q (fr u0) W :=
  wp_region_flow hm hb fr u0 (vOf l) C W hC (vOf_stable hV) hs fun u w h1 h2 h3 => fin u w h1 h2 (allV_of l 0 u w fun i hi => by rw [Nat.zero_add]; exact h3 i (by omega))
theorem count_first (l : List Bool) (m : Nat) (hm : m ≤ l.length) (h1 : ∀ j, j < m → l[j]? = some true) (h2 : ∀ j, m ≤ j → j < l.length → l[j]? = some false) : l.count true = m := by
  have e : l = l.take m ++ l.drop m := (List.take_append_drop m l).symm
  rw [e, List.count_append]
  have a : (l.take m).count true = (l.take m).length := by
    rw [List.count_eq_length]
    intro b hb
    obtain ⟨j, hj, rfl⟩ := List.getElem_of_mem hb
    rw [List.length_take] at hj
    have := h1 j (by omega)
    rw [List.getElem?_eq_getElem (by omega)] at this
    rw [List.getElem_take]
    injection this with this
    exact this.symm
  have b : (l.drop m).count true = 0 := by
    rw [List.count_eq_zero]
    intro hb
    obtain ⟨j, hj, he⟩ := List.getElem_of_mem hb
    rw [List.length_drop] at hj
    have := h2 (m + j) (by omega) (by omega)
    rw [List.getElem?_eq_getElem (by omega)] at this
    rw [List.getElem_drop] at he
    rw [he] at this
    cases this
  rw [a, b, List.length_take]
  omega

theorem wp_flow_tail {id : Nat} (m : Nat) (hm : P.follows .mixedOrders = true) (hb : backB ops = true) (hf : forcedB ops m = true) (hmn0 : decide (m < ops.size) = true) (fr : (Nat → Value) → Act) (u0 : Nat → Value) (l : List (Value → World → Prop)) (C : World → Prop) (W : World) (hl : m = l.length)
    (hC : ∀ w, Ext W w → C w) (hs : FSteps P ops Q fr (vOf l) C W 0 (ops.toList.take m)) (hV : ∀ p ∈ l, Stable p)
    (fin : ∀ u w, Ext W w → C w → AllV l 0 u w → wpList P ops Q (ops.toList.drop m) (fr u) w) : (Code.region id ops true).wp P Q (fr u0) W := by
  have hmn : m < ops.size := of_decide_eq_true hmn0
  refine wp_region_any hm ?_
  have key : ∀ (fuel : Nat) (listed : Array Bool) (u : Nat → Value) (w : World), listed.size = ops.size → fuel + listed.toList.count true = ops.size → (∀ i, listed.getD i false = true → i < m ∧ vOf l i (u i) w) → DClosed ops listed → Ext W w →
      wpAny P .any ops Q fuel listed (fr u) w := by
    intro fuel
    induction fuel with
    | zero =>
      intro listed u w hz hc hv _ _
      exfalso
      have := all_of_count listed.toList (by simp at hc ⊢; omega) m (by simp; omega)
      simp at this
      have h2 := (hv m (by simp [Array.getD, hz, hmn, (Array.getElem?_eq_some_iff.1 this).2])).1
      omega
    | succ fuel ih =>
      intro listed u w hz hc hv hcl hx
      by_cases hall : ∀ j, j < m → listed.getD j false = true
      · have hrest : ∀ j, m ≤ j → listed.getD j false = false := by
          intro j hj
          cases h : listed.getD j false with
          | false => rfl
          | true => have := (hv j h).1; omega
        have hcount : listed.toList.count true = m := by
          refine count_first _ m (by simp; omega) (fun j hj => ?_) (fun j hj hj2 => ?_)
          · have hjl : j < listed.size := by omega
            have := hall j hj
            simp [Array.getD, hjl] at this
            simp [hjl, this]
          · have hjl : j < listed.size := by simpa using hj2
            have := hrest j hj
            simp [Array.getD, hjl] at this
            simp [hjl, this]
        exact wp_tail hb hf (fuel + 1) m (by omega) (Nat.le_refl _) listed _ w hz hall hrest (fin u w hx (hC w hx) (allV_of l 0 u w fun i hi => by rw [Nat.zero_add]; exact (hv i (hall i (by omega))).2))
      · refine ⟨fun hr => absurd (fun j hj => all_listed hz hb hr j (by omega)) hall, fun i hi => ?_⟩
        obtain ⟨h1, h2, h3⟩ := ready_of hi
        have him : i < m := by
          rcases Nat.lt_or_ge i m with hh | hh
          · exact hh
          · exact absurd (fun j hj => forced hf hcl hi hh j (by omega)) hall
        have hil : i < listed.size := by omega
        have h2' : listed[i]'hil = false := by simpa [Array.getD, hil] using h2
        have ho : ops[i]? = some (ops[i]'h1) := Array.getElem?_eq_getElem h1
        have hst := FSteps.get (ops.toList.take m) 0 hs i (ops[i]'h1) (by rw [List.getElem?_take_of_lt him, Array.getElem?_toList]; exact ho)
        rw [Nat.zero_add] at hst
        have hgo := hst u w hx (hC w hx) (fun e he hbd => (hv _ (h3 _ ho e he hbd)).2) (wpAny P .any ops Q fuel (listed.setIfInBounds i true)) (fun v w' hvi hx' => by
          refine ih _ _ _ (by simp [hz]) ?_ ?_ ?_ (hx.trans hx')
          · rw [Array.toList_setIfInBounds, count_set_true _ _ (by simp [Array.getElem?_eq_getElem hil, h2'])]
            omega
          · intro j hj
            by_cases e : j = i
            · subst e; simp only [upd, if_true]; exact ⟨him, hvi⟩
            · have : listed.getD j false = true := by
                simp only [Array.getD_eq_getD_getElem?, Array.getElem?_setIfInBounds] at hj ⊢
                rwa [if_neg (by omega)] at hj
              simp only [upd, if_neg e]
              exact ⟨(hv j this).1, vOf_stable hV _ _ _ _ (hv j this).2 hx'⟩
          · intro j o hj hoj e he hbd
            have hset : ∀ k, listed.getD k false = true → (listed.setIfInBounds i true).getD k false = true := by
              intro k hk
              simp only [Array.getD_eq_getD_getElem?, Array.getElem?_setIfInBounds] at hk ⊢
              by_cases e : i = k
              · rw [if_pos e, if_pos (by omega)]; rfl
              · rwa [if_neg e]
            refine hset _ ?_
            by_cases e' : j = i
            · subst e'
              exact h3 o hoj e he hbd
            · refine hcl j o ?_ hoj e he hbd
              simp only [Array.getD_eq_getD_getElem?, Array.getElem?_setIfInBounds] at hj ⊢
              rwa [if_neg (by omega)] at hj)
        unfold wpOp
        rw [ho]
        simp only
        split
        · rename_i hw
          rw [if_pos hw] at hgo
          exact .inl hgo
        · rename_i hw
          rw [if_neg hw] at hgo
          exact hgo
  have hno : ∀ i, ¬ (Array.replicate ops.size false).getD i false = true := by
    intro i h
    simp only [Array.getD_eq_getD_getElem?, Array.getElem?_replicate] at h
    split at h <;> simp at h
  exact key ops.size (Array.replicate ops.size false) u0 _ (by simp) (by simp [List.count_replicate]) (fun i h => absurd h (hno i)) (fun i o h => absurd h (hno i)) (Ext.drew (Ext.refl W))
end

end Go.Proofs.Ytjccilpjaaiicaa

namespace Go.Proofs.Ytjccilpjaaiicaa
open Go.RowKit

section
variable {P : Program} (w : World)

theorem wpList_app {ops : Array Oper} {rest : List Oper} {o : Oper} {a : Act} {Q : Exit → Act → World → Prop} (hgd : o.guard = none) (s x : Operand) (t : TypeId)
    (ho : o.op = .call { callee := .builtin .append, args := #[s, x], argTypes := #[t, t] })
    (base e : Nat) (i : TypeInfo) (z : Value) (size bytes : Nat) (ht : P.underlying t = some (.slice e)) (hi : P.info? e = some i) (hz : i.zero = some z)
    (hsize : i.size = size) (hby : i.bytes = bytes) (hzs : z.cells.size = size) (hsz : 0 < size)
    (v : Value) (n : Nat) (xs : List Value) (hs : a.eval s = v) (hown : w.ownsRow base e size v n xs)
    (b : Addr) (m c : Nat) (news : List Value) (hx : a.eval x = .slice (some b) m c) (hl : news.length = m * size) (hnews : ∀ j u, news[j]? = some u → w.cell? (b.add j) = some u) (h1 : ∀ u ∈ news, u.oneCell' = true)
    (h63 : n + m ≤ maxLen) (hbytes : (n + m) * bytes ≤ 140737488355328) (hbase : base ≤ w.heap.size)
    (h : ∀ v' w', w'.ownsRow base e size v' (n + m) (xs ++ news) → w.grownBy w' v.ownBlock → (v'.ownBlock = v.ownBlock ∨ v'.ownBlock = some w.heap.size) → wpList P ops Q rest (a.put o.dst v') w') :
    wpList P ops Q (o :: rest) a w := by
  obtain ⟨v', w', hrun, h2, h3, _, h4⟩ := run_append_own_at (P := P) w base t o.type e i z size bytes ht hi hz hsize hby hzs hsz v n xs hown b m c news hl hnews h1 h63 hbytes hbase
  refine wpList_plain hgd fun K hK => ?_
  unfold Oper.wp execOp
  simp only [ho, resolve, invoke, builtin, Sem.run_bind, Sem.run_pure, Result.andThen_ok, List.map_toArray, List.map_cons, List.map_nil, hs, hx, hrun]
  exact hK _ _ (h v' w' h2 h3 h4)
end

/-- a new block whose first cells are cs, told by a slice over it -/
def SLn (lo : Nat) (cs : List Value) (n : Nat) (v : Value) (w : World) : Prop := ∃ b, v = .slice (some ⟨b, 0, none⟩) n n ∧ lo ≤ b ∧ b < w.heap.size ∧ ∀ j u, cs[j]? = some u → w.cell? ⟨b, j, none⟩ = some u
theorem SLn_stable (lo : Nat) (cs : List Value) (n : Nat) : Stable (SLn lo cs n) := by
  rintro v w w' ⟨b, rfl, h1, h2, h3⟩ hx
  exact ⟨b, rfl, h1, Nat.lt_of_lt_of_le h2 hx.size, fun j u hu => (hx.cells _ _ h2).trans (h3 j u hu)⟩
theorem SLn_new {lo : Nat} {cs : List Value} {n : Nat} (w : World) (T : TypeId) (h : lo ≤ w.heap.size) : SLn lo cs n (.slice (some ⟨w.heap.size, 0, none⟩) n n) (w.alloc (.cells cs.toArray T)) :=
  ⟨_, rfl, h, by simp, fun j u hu => by
    have := heap_alloc_new w (.cells cs.toArray T)
    unfold World.cell?
    simp only [this]
    simpa using hu⟩
theorem SLn.addr {cs : List Value} {b : Nat} {w : World} (h : ∀ j u, cs[j]? = some u → w.cell? ⟨b, j, none⟩ = some u) : ∀ j u, cs[j]? = some u → w.cell? ((⟨b, 0, none⟩ : Addr).add j) = some u := by
  intro j u hu
  have e : (⟨b, 0, none⟩ : Addr).add j = ⟨b, j, none⟩ := by
    unfold Addr.add
    split
    · subst_vars; rfl
    · simp
  rw [e]
  exact h j u hu

theorem ownsRow_ext {w w' : World} {base e size n : Nat} {v : Value} {xs : List Value} (h : w.ownsRow base e size v n xs) (hx : Ext w w') : w'.ownsRow base e size v n xs := by
  refine h.kept (row := none) ⟨Below.os hx.below, Below.tape hx.below, Below.output hx.below, hx.size, fun k hk _ => hx.below.block k hk⟩ ?_
  cases v.ownBlock with
  | none => exact .inl rfl
  | some g => exact .inr (by simp)

theorem ext_grown {a w w' : World} {row : Option Nat} (h : Ext a w) (hg : w.grownBy w' row) (hr : ∀ k, row = some k → a.heap.size ≤ k) : Ext a w' := Below.grown h.below hg h.size hr

end Go.Proofs.Ytjccilpjaaiicaa

namespace Go.Proofs.Ytjccilpjaaiicaa
open Go.RowKit

section
variable {P : Program} {ops : Array Oper} {Q : Exit → Act → World → Prop}

/-- operation j waits for operation i -/
def waits (ops : Array Oper) (i j : Nat) : Bool := match ops[j]? with | some o => o.after.any (fun e => e.on == i && Region.binds .any e) | none => false

/-- What is owed at operation i. -/
def LStep (P : Program) (ops : Array Oper) (Q : Exit → Act → World → Prop) (fr : (Nat → Value) → Act) (u0 : Nat → Value) (V : Nat → Value → World → Prop) (C : World → Prop) (W : World) (i : Nat) (o : Oper) : Prop :=
  ∀ (u : Nat → Value) (w : World), Ext W w → C w → (∀ e ∈ o.after.toList, Region.binds .any e = true → V e.on (u e.on) w) → (∀ j, waits ops i j = true → u j = u0 j) → ∀ K : Act → World → Prop, (∀ v w', V i v w' → Ext w w' → K (fr (upd u i v)) w') →
    if Region.wanted o (yielded ops (fr u).tmps) then o.wp P (fr u) w K Q else K ((fr u).put o.dst undef) w

def LSteps (P : Program) (ops : Array Oper) (Q : Exit → Act → World → Prop) (fr : (Nat → Value) → Act) (u0 : Nat → Value) (V : Nat → Value → World → Prop) (C : World → Prop) (W : World) : Nat → List Oper → Prop
  | _, [] => True
  | i, o :: l => LStep P ops Q fr u0 V C W i o ∧ LSteps P ops Q fr u0 V C W (i + 1) l

theorem LSteps.get {fr : (Nat → Value) → Act} {u0 : Nat → Value} {V : Nat → Value → World → Prop} {C : World → Prop} {W : World} : ∀ (l : List Oper) (n : Nat), LSteps P ops Q fr u0 V C W n l → ∀ (i : Nat) (o : Oper), l[i]? = some o → LStep P ops Q fr u0 V C W (n + i) o
  | [], _, _, i, o, h => by simp at h
  | x :: l, n, hs, 0, o, h => by
    simp at h
    subst h
    exact hs.1
  | x :: l, n, hs, i + 1, o, h => by
    have := LSteps.get l (n + 1) hs.2 i o (by simpa using h)
    rw [show n + 1 + i = n + (i + 1) from by omega] at this
    exact this

theorem LSteps.nil {fr : (Nat → Value) → Act} {u0 : Nat → Value} {V : Nat → Value → World → Prop} {C : World → Prop} {W : World} {i : Nat} : LSteps P ops Q fr u0 V C W i [] := trivial
theorem LSteps.cons {fr : (Nat → Value) → Act} {u0 : Nat → Value} {V : Nat → Value → World → Prop} {C : World → Prop} {W : World} {i : Nat} {o : Oper} {l : List Oper} (h : LStep P ops Q fr u0 V C W i o) (t : LSteps P ops Q fr u0 V C W (i + 1) l) : LSteps P ops Q fr u0 V C W i (o :: l) := ⟨h, t⟩

theorem LStep.plain {fr : (Nat → Value) → Act} {u0 : Nat → Value} {V : Nat → Value → World → Prop} {C : World → Prop} {W : World} {i : Nat} {o : Oper} (hg : o.guard = none)
    (h : ∀ (u : Nat → Value) (w : World), Ext W w → C w → (∀ e ∈ o.after.toList, Region.binds .any e = true → V e.on (u e.on) w) → (∀ j, waits ops i j = true → u j = u0 j) → ∀ K : Act → World → Prop, (∀ v w', V i v w' → Ext w w' → K (fr (upd u i v)) w') → o.wp P (fr u) w K Q) : LStep P ops Q fr u0 V C W i o := by
  intro u w h1 h2 h3 h4 K hK
  rw [if_pos (by simp [Region.wanted, hg])]
  exact h u w h1 h2 h3 h4 K hK

theorem wp_region_late {id : Nat} (hm : P.follows .mixedOrders = true) (hb : backB ops = true) (fr : (Nat → Value) → Act) (u0 : Nat → Value) (V : Nat → Value → World → Prop) (C : World → Prop) (W : World)
    (hC : ∀ w, Ext W w → C w) (hV : ∀ i v w w', V i v w → Ext w w' → V i v w')
    (hs : LSteps P ops Q fr u0 V C W 0 ops.toList)
    (fin : ∀ u w, Ext W w → C w → (∀ i, i < ops.size → V i (u i) w) → Q .normal (fr u) w) : (Code.region id ops true).wp P Q (fr u0) W := by
  refine wp_region_any hm ?_
  have key : ∀ (fuel : Nat) (listed : Array Bool) (u : Nat → Value) (w : World), listed.size = ops.size → fuel + listed.toList.count true = ops.size → (∀ i, listed.getD i false = true → V i (u i) w) → (∀ i, listed.getD i false = false → u i = u0 i) → DClosed ops listed → Ext W w →
      wpAny P .any ops Q fuel listed (fr u) w := by
    intro fuel
    induction fuel with
    | zero =>
      intro listed u w hz hc hv hn hcl hx
      have hall : ∀ i, i < ops.size → listed.getD i false = true := by
        intro i hi
        have := all_of_count listed.toList (by simp at hc ⊢; omega) i (by simp; omega)
        simp at this
        simp [Array.getD, hz, hi, (Array.getElem?_eq_some_iff.1 this).2]
      refine ⟨?_, fin u w hx (hC w hx) (fun i hi => hv i (hall i hi))⟩
      rw [List.eq_nil_iff_forall_not_mem]
      intro i hi
      obtain ⟨h1, h2, _⟩ := ready_of hi
      have h3 := hall i h1
      have hl : i < listed.size := by omega
      simp [Array.getD, hl] at h2 h3
      rw [h2] at h3
      cases h3
    | succ fuel ih =>
      intro listed u w hz hc hv hn hcl hx
      refine ⟨fun hr => fin u w hx (hC w hx) (fun i hi => hv i (all_listed hz hb hr i hi)), fun i hi => ?_⟩
      obtain ⟨h1, h2, h3⟩ := ready_of hi
      have hl : i < listed.size := by omega
      have h2' : listed[i]'hl = false := by simpa [Array.getD, hl] using h2
      have ho : ops[i]? = some (ops[i]'h1) := Array.getElem?_eq_getElem h1
      have hst := LSteps.get ops.toList 0 hs i (ops[i]'h1) (by rw [Array.getElem?_toList]; exact ho)
      rw [Nat.zero_add] at hst
      have hwait : ∀ j, waits ops i j = true → u j = u0 j := by
        intro j hj
        refine hn j ?_
        cases hlj : listed.getD j false with
        | false => rfl
        | true =>
          exfalso
          unfold waits at hj
          cases hoj : ops[j]? with
          | none => rw [hoj] at hj; cases hj
          | some oj =>
            rw [hoj] at hj
            simp only [Array.any_eq_true'] at hj
            obtain ⟨e, he, hb2⟩ := hj
            rw [Bool.and_eq_true, beq_iff_eq] at hb2
            have := hcl j oj hlj hoj e (by simpa using he) hb2.2
            rw [hb2.1] at this
            simp [Array.getD, hl, h2'] at this
      have hgo := hst u w hx (hC w hx) (fun e he hbd => hv _ (h3 _ ho e he hbd)) hwait (wpAny P .any ops Q fuel (listed.setIfInBounds i true)) (fun v w' hvi hx' => by
        refine ih _ _ _ (by simp [hz]) ?_ ?_ ?_ ?_ (hx.trans hx')
        · rw [Array.toList_setIfInBounds, count_set_true _ _ (by simp [Array.getElem?_eq_getElem hl, h2'])]
          omega
        · intro j hj
          by_cases e : j = i
          · subst e; simp only [upd, if_true]; exact hvi
          · have : listed.getD j false = true := by
              simp only [Array.getD_eq_getD_getElem?, Array.getElem?_setIfInBounds] at hj ⊢
              rwa [if_neg (by omega)] at hj
            simp only [upd, if_neg e]
            exact hV _ _ _ _ (hv j this) hx'
        · intro j hj
          by_cases e : j = i
          · subst e
            exfalso
            simp [Array.getD_eq_getD_getElem?, hl] at hj
          · have : listed.getD j false = false := by
              simp only [Array.getD_eq_getD_getElem?, Array.getElem?_setIfInBounds] at hj ⊢
              rwa [if_neg (by omega)] at hj
            simp only [upd, if_neg e]
            exact hn j this
        · intro j o hj hoj e he hbd
          have hset : ∀ k, listed.getD k false = true → (listed.setIfInBounds i true).getD k false = true := by
            intro k hk
            simp only [Array.getD_eq_getD_getElem?, Array.getElem?_setIfInBounds] at hk ⊢
            by_cases e : i = k
            · rw [if_pos e, if_pos (by omega)]; rfl
            · rwa [if_neg e]
          refine hset _ ?_
          by_cases e' : j = i
          · subst e'
            exact h3 o hoj e he hbd
          · refine hcl j o ?_ hoj e he hbd
            simp only [Array.getD_eq_getD_getElem?, Array.getElem?_setIfInBounds] at hj ⊢
            rwa [if_neg (by omega)] at hj)
      unfold wpOp
      rw [ho]
      simp only
      split
      · rename_i hw
        rw [if_pos hw] at hgo
        exact .inl hgo
      · rename_i hw
        rw [if_neg hw] at hgo
        exact hgo
  have hno : ∀ i, ¬ (Array.replicate ops.size false).getD i false = true := by
    intro i h
    simp only [Array.getD_eq_getD_getElem?, Array.getElem?_replicate] at h
    split at h <;> simp at h
  refine key ops.size (Array.replicate ops.size false) u0 _ (by simp) (by simp [List.count_replicate]) (fun i h => absurd h (hno i)) (fun _ _ => rfl) (fun i o h => absurd h (hno i)) (Ext.drew (Ext.refl W))

theorem wp_late {id : Nat} (hm : P.follows .mixedOrders = true) (hb : backB ops = true) (fr : (Nat → Value) → Act) (u0 : Nat → Value) (l : List (Value → World → Prop)) (C : World → Prop) (W : World) (hl : ops.size = l.length)
    (hC : ∀ w, Ext W w → C w) (hs : LSteps P ops Q fr u0 (vOf l) C W 0 ops.toList) (hV : ∀ p ∈ l, Stable p)
    (fin : ∀ u w, Ext W w → C w → AllV l 0 u w → Q .normal (fr u) w) : (Code.region id ops true).wp P Q (fr u0) W :=
  wp_region_late hm hb fr u0 (vOf l) C W hC (vOf_stable hV) hs fun u w h1 h2 h3 => fin u w h1 h2 (allV_of l 0 u w fun i hi => by rw [Nat.zero_add]; exact h3 i (by omega))
end

end Go.Proofs.Ytjccilpjaaiicaa

namespace Go.Proofs.Ytjccilpjaaiicaa
open Go.RowKit

theorem and_mask (x : Int) (m : Nat) (hm : m < 4294967296) : 0 ≤ bits .and .i64 x (m : Int) ∧ bits .and .i64 x (m : Int) ≤ (m : Int) := by
  have e : bits .and .i64 x (m : Int) = IntKind.i64.wrap ((BitVec.ofInt 64 x &&& BitVec.ofInt 64 (m : Int)).toNat : Int) := rfl
  have h1 : (BitVec.ofInt 64 x &&& BitVec.ofInt 64 (m : Int)).toNat ≤ m := by
    rw [BitVec.toNat_and]
    refine Nat.le_trans Nat.and_le_right ?_
    rw [BitVec.toNat_ofInt]
    omega
  rw [e, wrap_in _ (by omega) (by omega)]
  omega

/-- a cursor over the n bytes at B, in block g -/
def Cur (w : World) (g : Nat) (B : Option Addr) (n c : Nat) : Prop :=
  ∃ i h : Int, w.heap[g]? = some (.cells #[.slice B n c, .int .i64 i, .int .i64 h] 64 (0, 0)) ∧ 0 ≤ i ∧ i ≤ (n : Int)
/-- n bytes -/
def RB (w : World) (B : Option Addr) (n : Nat) : Prop :=
  0 < n → ∃ b off, B = some ⟨b, off, none⟩ ∧ b < w.heap.size ∧ ∀ k, k < n → ∃ x : Int, w.cell? ⟨b, off + k, none⟩ = some (.int .u8 x) ∧ 0 ≤ x ∧ x ≤ 255
theorem RB.ext {w w' : World} {B : Option Addr} {n : Nat} (h : RB w B n) (hx : Ext w w') : RB w' B n := fun hn =>
  let ⟨b, off, e, h1, h2⟩ := h hn
  ⟨b, off, e, Nat.lt_of_lt_of_le h1 hx.size, fun k hk => let ⟨x, h3, h4⟩ := h2 k hk; ⟨x, (hx.cells _ _ h1).trans h3, h4⟩⟩

set_option maxRecDepth 100000 in
set_option maxHeartbeats 1600000 in
theorem l01New_any (B : Option Addr) (n c : Nat) (w : World) (hb : RB w B n) (hn : n ≤ 1048576) :
    Calls Try.prog 18 #[.slice B n c] w fun e w' => e = .returned (.pointer (some ⟨w.heap.size, 0, none⟩)) ∧ Cur w' w.heap.size B n c ∧ Ext w w' := by
  go_enter Try.func18, Try.ntmps18
  go_wp2
  go_loop [3, 4] (fun h i => ∃ (k : Nat) (x : Int), k ≤ n ∧ i = .int .i64 k ∧ h = .int .i64 x) (fun _ i => n - (intOf i).toNat)
  case atStart => exact ⟨0, _, Nat.zero_le _, rfl, rfl⟩
  case round =>
    obtain ⟨k, x, hk, rfl, rfl⟩ := hrel
    by_cases hlt : k < n
    · obtain ⟨b, off, rfl, hz, hcs⟩ := hb (by omega)
      obtain ⟨y, hy, _, _⟩ := hcs k hlt
      clear hcs
      by_cases h4 : k < 4000
      · go_wp2
        go_round
        case rel => exact ⟨k + 1, _, by omega, by go_num, rfl⟩
        case measure => simp [intOf]; omega
      · go_wp2
        go_ret
        exact ⟨rfl, ⟨0, x, heap_alloc_new w _, by omega, by omega⟩, (Ext.refl w).alloc _⟩
    · go_wp2
      go_ret
      exact ⟨rfl, ⟨0, x, heap_alloc_new w _, by omega, by omega⟩, (Ext.refl w).alloc _⟩

/-- w' is w with new blocks; of the old ones block g alone may have turned. -/
structure Only (g : Nat) (w w' : World) : Prop where
  os : w'.os = w.os
  tape : w'.tape = w.tape
  output : w'.output = w.output
  size : w.heap.size ≤ w'.heap.size
  block : ∀ k, k < w.heap.size → k ≠ g → w'.heap[k]? = w.heap[k]?

section
variable {g : Nat} {w a b : World}
theorem Only.of_ext (h : Ext w a) : Only g w a := ⟨h.below.os, h.below.tape, h.below.output, h.size, fun k hk _ => h.below.block k hk⟩
theorem Only.refl (w : World) : Only g w w := Only.of_ext (Ext.refl w)
theorem Only.trans (h : Only g w a) (k : Only g a b) : Only g w b :=
  ⟨k.os.trans h.os, k.tape.trans h.tape, k.output.trans h.output, Nat.le_trans h.size k.size, fun q hq hr => (k.block q (Nat.lt_of_lt_of_le hq h.size) hr).trans (h.block q hq hr)⟩
theorem Only.ext (h : Only g w a) (hx : Ext a b) : Only g w b := h.trans (Only.of_ext hx)
theorem Only.set (h : Only g w a) (o : Nat) (u : Value) : Only g w (a.setCell ⟨g, o, none⟩ u) :=
  ⟨h.os, h.tape, h.output, by rw [size_setCell]; exact h.size, fun k hk hr => (Below.heap_setCell _ _ _ _ (fun e => hr e)).trans (h.block k hk hr)⟩
theorem Only.setNew (h : Only g w a) {q : Nat} (hq : w.heap.size ≤ q) (o : Nat) (u : Value) : Only g w (a.setCell ⟨q, o, none⟩ u) :=
  ⟨h.os, h.tape, h.output, by rw [size_setCell]; exact h.size, fun k hk hr => (Below.heap_setCell _ _ _ _ (by intro e; simp at e; omega)).trans (h.block k hk hr)⟩
theorem Only.cell (h : Only g w a) {q : Nat} (hq : q < w.heap.size) (hr : q ≠ g) (o : Nat) : a.cell? ⟨q, o, none⟩ = w.cell? ⟨q, o, none⟩ := World.cell?_of_block (w := w) (a := ⟨q, o, none⟩) (h.block q hq hr)
theorem Only.below {B : Nat} (h : Only g w a) (hB : B ≤ g) (hs : B ≤ w.heap.size) : Below B w a := ⟨h.os, h.tape, h.output, h.size, fun k hk => h.block k (by omega) (by omega)⟩
end

/-- what a draw leaves: a number from 0 to m -/
def BelowP (g : Nat) (B : Option Addr) (n c : Nat) (m : Int) (w : World) (e : Ending) (w' : World) : Prop :=
  ∃ x : Int, (0 ≤ x ∧ x ≤ m) ∧ e = .returned (.int .i64 x) ∧ Cur w' g B n c ∧ Only g w w'

theorem RB.only {w w' : World} {B : Option Addr} {n g : Nat} (h : RB w B n) (hx : Only g w w') (hne : 0 < n → ∀ b off, B = some ⟨b, off, none⟩ → b ≠ g) : RB w' B n := fun hn =>
  let ⟨b, off, e, h1, h2⟩ := h hn
  ⟨b, off, e, Nat.lt_of_lt_of_le h1 hx.size, fun k hk => let ⟨x, h3, h4⟩ := h2 k hk; ⟨x, (hx.cell h1 (hne hn b off e) _).trans h3, h4⟩⟩

theorem cur_h {w : World} {g : Nat} {B : Option Addr} {n c : Nat} {i h : Int} (y : Int) (hb : w.heap[g]? = some (.cells #[.slice B n c, .int .i64 i, .int .i64 h] 64 (0, 0))) :
    (w.setCell ⟨g, 2, none⟩ (.int .i64 y)).heap[g]? = some (.cells #[.slice B n c, .int .i64 i, .int .i64 y] 64 (0, 0)) := by
  simp [World.setCell, Array.getElem?_modify, hb]
theorem cur_i {w : World} {g : Nat} {B : Option Addr} {n c : Nat} {i h : Int} (y : Int) (hb : w.heap[g]? = some (.cells #[.slice B n c, .int .i64 i, .int .i64 h] 64 (0, 0))) :
    (w.setCell ⟨g, 1, none⟩ (.int .i64 y)).heap[g]? = some (.cells #[.slice B n c, .int .i64 y, .int .i64 h] 64 (0, 0)) := by
  simp [World.setCell, Array.getElem?_modify, hb]
theorem cur_cells {w : World} {g : Nat} {B : Option Addr} {n c : Nat} {i h : Int} (hb : w.heap[g]? = some (.cells #[.slice B n c, .int .i64 i, .int .i64 h] 64 (0, 0))) :
    g < w.heap.size ∧ w.cell? ⟨g, 0, none⟩ = some (.slice B n c) ∧ w.cell? ⟨g, 1, none⟩ = some (.int .i64 i) ∧ w.cell? ⟨g, 2, none⟩ = some (.int .i64 h) ∧ w.frozen? ⟨g, 1, none⟩ = false ∧ w.frozen? ⟨g, 2, none⟩ = false := by
  refine ⟨?_, ?_, ?_, ?_, ?_, ?_⟩
  · rcases Nat.lt_or_ge g w.heap.size with h2 | h2
    · exact h2
    · rw [Array.getElem?_eq_none h2] at hb; cases hb
  all_goals simp [World.cell?, World.frozen?, hb]

set_option maxRecDepth 100000 in
set_option maxHeartbeats 3200000 in
theorem l01Byte_any (g : Nat) (B : Option Addr) (n c : Nat) (w : World) (hc : Cur w g B n c) (hb : RB w B n) (hn : n ≤ 1048576) (hne : 0 < n → ∀ b off, B = some ⟨b, off, none⟩ → b ≠ g) :
    Calls Try.prog 48 #[.pointer (some ⟨g, 0, none⟩)] w (BelowP g B n c 255 w) := by
  obtain ⟨i, h, hblk, hi0, hin⟩ := hc
  obtain ⟨i, rfl⟩ := Int.eq_ofNat_of_zero_le hi0
  obtain ⟨a1, a2, a3, a4, a5, a6⟩ := cur_cells hblk
  go_enter Try.func48, Try.ntmps48
  go_wp2
  clear a2 a3 a4 a5 a6
  generalize wrap64 (h * 6364136223846793005) = y0
  generalize wrap64 (y0 + 1442695040888963407) = y
  have hch1 : Only g w (w.setCell ⟨g, 2, none⟩ (.int .i64 y)) := (Only.refl w).set 2 _
  have hb1 := hb.only hch1 hne
  have hblk1 := cur_h y hblk
  clear hblk hb
  generalize w.setCell ⟨g, 2, none⟩ (.int .i64 y) = w1 at hch1 hb1 hblk1 ⊢
  obtain ⟨a1, a2, a3, a4, a5, a6⟩ := cur_cells hblk1
  clear a5 a6
  have hgz := a1
  go_wp2
  refine wp_flow (by kernel_rfl) (by kernel_rfl) (fun u => ⟨#[_, _, _, u 12, _, _, _, _, _, _, _, _, _, u 0, u 1, u 2, u 3, u 4, u 5, u 6, u 7, u 8, u 9, u 10, u 11, _, _, _, _, _, _, _, _, _, _, _, _, _, _, _, _, _, _, _, _, _, _, _, _, _, _, _, _, _, _, _, _, _], _⟩) (fun i => List.getD [_, _, _, _, _, _, _, _, _, _, _, _, _] i undef) [is ?v1_0, is ?v1_1, is ?v1_2, is ?v1_3, is ?v1_4, is ?v1_5, is ?v1_6, is ?v1_7, is ?v1_8, is ?v1_9, is ?v1_10, is ?v1_11, is ?v1_12] (fun w' => w'.cell? ⟨g, 0, none⟩ = some (.slice B n c) ∧ w'.cell? ⟨g, 1, none⟩ = some (.int .i64 i) ∧ w'.cell? ⟨g, 2, none⟩ = some (.int .i64 y)) _ rfl ?hC1 ?hs1 ?hV1 ?fin1
  case hC1 => (intro w' hx; and_intros <;> (first | (refine (Eq.trans (hx.cells _ _ ?_) ?_) <;> first | assumption | omega | (simp; done) | (simp; omega) | (simp [go_sem, World.cell?_alloc_past, *]; done)) | (have hz := hx.size; first | omega | (simp at hz; omega))))
  case hs1 =>
    repeat' (first
      | exact FSteps.nil
      | refine FSteps.cons ?_ ?_
      | (refine FStep.off_ _ _ _ rfl rfl ?_ (fun _ => rfl) ?_; (focus (intro u w hd; simp [vOf, is, Region.binds] at hd; simp [hd])); (intro w'; exact rfl); done)
      | ((first
          | refine FStep.plain rfl ?_
          | (refine FStep.on_ _ _ _ rfl rfl ?_ ?_; (focus (intro u w hd; simp [vOf, is, Region.binds] at hd; simp [hd]))))
         intro u w hW hC hd K hK
         (try simp [vOf, is, Region.binds] at hd)
         simp only [upd, Nat.reduceEqDiff, if_true, if_false] at hK
         (try simp only [hd] at hK)
         go_simp
         (first
           | (refine hK _ _ ?_ ?_; (first | exact rfl); (repeat (first | exact Ext.refl _ | assumption | apply Ext.alloc | apply Ext.drew | apply Ext.drewN | (refine Ext.trans ?_ (by assumption))))))))
  case hV1 => (simp only [List.forall_mem_cons]; simp [stable_is])
  case fin1 =>
    intro u w2 hW2 hC2 hd
    simp only [AllV, is] at hd
    simp only [hd]
    clear hd
    obtain ⟨wa, rfl⟩ : ∃ wa : World, wa = w2 := ⟨_, rfl⟩
    obtain ⟨x, hx⟩ : ∃ x, x = bits .and .i64 (bits .xor .i64 (y / 8589934592) (y / 35184372088832)) 255 := ⟨_, rfl⟩
    have hxm := and_mask (bits .xor .i64 (y / 8589934592) (y / 35184372088832)) 255 (by omega)
    have hchA := hch1.ext hW2
    have hbA := hb1.ext hW2
    have hblkA := (hW2.below.block g hgz).trans hblk1
    simp only [Int.cast_ofNat_Int] at hxm
    rw [← hx] at hxm ⊢
    clear hx hC2 hW2 hch1 hb1 hblk1 a2 a3 a4 a1 hgz
    obtain ⟨a1, a2, a3, a4, a5, a6⟩ := cur_cells hblkA
    clear a5 a6
    have hgz := a1
    by_cases hlt : i < n
    · obtain ⟨b, off, rfl, hz, hcs⟩ := hbA (by omega)
      obtain ⟨v, hv, hv0, hv1⟩ := hcs i hlt
      clear hcs
      have i1 : (0 : Int) ≤ (i : Int) := by omega
      have i2 : (i : Int) < (n : Int) := by omega
      go_wp2
      refine wp_flow (by kernel_rfl) (by kernel_rfl) (fun u => ⟨#[_, _, _, _, _, _, _, _, _, _, _, _, _, _, _, _, _, _, _, _, _, _, _, _, _, u 0, u 1, u 2, u 3, u 4, u 5, u 6, u 7, u 8, u 9, _, _, _, _, _, _, _, _, _, _, _, _, _, _, _, _, _, _, _, _, _, _, _], _⟩) (fun i => List.getD [_, _, _, _, _, _, _, _, _, _] i undef) [is ?v2_0, is ?v2_1, is ?v2_2, is ?v2_3, is ?v2_4, is ?v2_5, is ?v2_6, is ?v2_7, is ?v2_8, is ?v2_9] (fun w' => w'.cell? ⟨g, 0, none⟩ = some (.slice (some ⟨b, off, none⟩) n c) ∧ w'.cell? ⟨g, 1, none⟩ = some (.int .i64 i) ∧ w'.cell? ⟨g, 2, none⟩ = some (.int .i64 y) ∧ w'.cell? ⟨b, off + i, none⟩ = some (.int .u8 v)) _ rfl ?hC2 ?hs2 ?hV2 ?fin2
      case hC2 => (intro w' hx; and_intros <;> (first | (refine (Eq.trans (hx.cells _ _ ?_) ?_) <;> first | assumption | omega | (simp; done) | (simp; omega) | (simp [go_sem, World.cell?_alloc_past, *]; done)) | (have hz := hx.size; first | omega | (simp at hz; omega))))
      case hs2 =>
        repeat' (first
          | exact FSteps.nil
          | refine FSteps.cons ?_ ?_
          | (refine FStep.off_ _ _ _ rfl rfl ?_ (fun _ => rfl) ?_; (focus (intro u w hd; simp [vOf, is, Region.binds] at hd; simp [hd])); (intro w'; exact rfl); done)
          | ((first
              | refine FStep.plain rfl ?_
              | (refine FStep.on_ _ _ _ rfl rfl ?_ ?_; (focus (intro u w hd; simp [vOf, is, Region.binds] at hd; simp [hd]))))
             intro u w hW hC hd K hK
             (try simp [vOf, is, Region.binds] at hd)
             simp only [upd, Nat.reduceEqDiff, if_true, if_false] at hK
             (try simp only [hd] at hK)
             go_simp
             (first
               | (refine hK _ _ ?_ ?_; (first | exact rfl); (repeat (first | exact Ext.refl _ | assumption | apply Ext.alloc | apply Ext.drew | apply Ext.drewN | (refine Ext.trans ?_ (by assumption))))))))
      case hV2 => (simp only [List.forall_mem_cons]; simp [stable_is])
      case fin2 =>
        intro u w2 hW2 hC2 hd
        simp only [AllV, is] at hd
        simp only [hd]
        clear hd
        obtain ⟨wb, rfl⟩ : ∃ wb : World, wb = w2 := ⟨_, rfl⟩
        have hblkB := (hW2.below.block g hgz).trans hblkA
        have hchB := hchA.ext hW2
        have hbg : b ≠ g := hne (by omega) b off rfl
        have hvB := hC2.2.2.2
        have hzB : b < wb.heap.size := Nat.lt_of_lt_of_le hz hW2.size
        clear hC2 hW2 hchA hbA hblkA a1 a2 a3 a4 hv hz hgz
        obtain ⟨a1, a2, a3, a4, a5, a6⟩ := cur_cells hblkB
        clear a5 a6
        have hgz := a1
        go_wp2
        refine wp_late (by kernel_rfl) (by kernel_rfl) (fun u => ⟨#[_, _, _, u 14, _, _, _, _, _, _, _, _, _, _, _, _, _, _, _, _, _, _, _, _, _, _, _, _, _, _, _, _, _, _, _, u 0, u 1, u 2, u 3, u 4, u 5, u 6, u 7, u 8, u 9, u 10, u 11, u 12, u 13, _, _, _, _, _, _, _, _, _], _⟩) (fun i => List.getD [_, _, _, _, _, _, _, _, _, _, _, _, _, _, _] i undef) [is ?v3_0, is ?v3_1, is ?v3_2, is ?v3_3, is ?v3_4, is ?v3_5, is ?v3_6, is ?v3_7, is ?v3_8, is ?v3_9, is ?v3_10, is ?v3_11, is ?v3_12, is ?v3_13, is ?v3_14] (fun w' => w'.cell? ⟨g, 0, none⟩ = some (.slice (some ⟨b, off, none⟩) n c) ∧ w'.cell? ⟨g, 1, none⟩ = some (.int .i64 i) ∧ w'.cell? ⟨g, 2, none⟩ = some (.int .i64 y) ∧ w'.cell? ⟨b, off + i, none⟩ = some (.int .u8 v)) _ rfl ?hC3 ?hs3 ?hV3 ?fin3
        case hC3 => (intro w' hx; and_intros <;> (first | (refine (Eq.trans (hx.cells _ _ ?_) ?_) <;> first | assumption | omega | (simp; done) | (simp; omega) | (simp [go_sem, World.cell?_alloc_past, *]; done)) | (have hz := hx.size; first | omega | (simp at hz; omega))))
        case hs3 =>
          repeat' (first
            | exact LSteps.nil
            | refine LSteps.cons ?_ ?_
            | ((first
                | refine LStep.plain rfl ?_)
               intro u w hW hC hd hu K hK
               (try (have hl14 := hu 14 (by decide +kernel); simp at hl14; (try simp only [upd, Nat.reduceEqDiff, if_true, if_false] at hK); simp only [hl14] at hK ⊢))
               (try simp [vOf, is, Region.binds] at hd)
               (try simp only [upd, Nat.reduceEqDiff, if_true, if_false] at hK)
               (try simp only [hd] at hK)
               go_simp
               (first
                 | (refine hK _ _ ?_ ?_; (first | exact rfl); (repeat (first | exact Ext.refl _ | assumption | apply Ext.alloc | apply Ext.drew | apply Ext.drewN | (refine Ext.trans ?_ (by assumption))))))))
        case hV3 => (simp only [List.forall_mem_cons]; simp [stable_is])
        case fin3 =>
          intro u w2 hW2 hC2 hd
          simp only [AllV, is] at hd
          simp only [hd]
          clear hd
          have hblkC := (hW2.below.block g hgz).trans hblkB
          have hchC := hchB.ext hW2
          clear hC2 hW2 a1 a2 a3 a4 hblkB hchB hvB hgz
          obtain ⟨a1, a2, a3, a4, a5, a6⟩ := cur_cells hblkC
          go_wp2
          go_ret
          have hm : ∀ q, 0 ≤ bits .and .i64 q 255 ∧ bits .and .i64 q 255 ≤ 255 := fun q => by
            have := and_mask q 255 (by omega)
            simpa only [Int.cast_ofNat_Int] using this
          exact ⟨_, hm _, rfl, ⟨(i : Int) + 1, y, cur_i _ hblkC, by omega, by omega⟩, hchC.set 1 _⟩
    · have i2 : ¬ (i : Int) < (n : Int) := by omega
      go_wp2
      refine wp_flow (by kernel_rfl) (by kernel_rfl) (fun u => ⟨#[_, _, _, _, _, _, _, _, _, _, _, _, _, _, _, _, _, _, _, _, _, _, _, _, _, u 0, u 1, u 2, u 3, u 4, u 5, u 6, u 7, u 8, u 9, _, _, _, _, _, _, _, _, _, _, _, _, _, _, _, _, _, _, _, _, _, _, _], _⟩) (fun i => List.getD [_, _, _, _, _, _, _, _, _, _] i undef) [is ?v4_0, is ?v4_1, is ?v4_2, is ?v4_3, is ?v4_4, is ?v4_5, is ?v4_6, is ?v4_7, is ?v4_8, is ?v4_9] (fun w' => w'.cell? ⟨g, 0, none⟩ = some (.slice B n c) ∧ w'.cell? ⟨g, 1, none⟩ = some (.int .i64 i) ∧ w'.cell? ⟨g, 2, none⟩ = some (.int .i64 y)) _ rfl ?hC4 ?hs4 ?hV4 ?fin4
      case hC4 => (intro w' hx; and_intros <;> (first | (refine (Eq.trans (hx.cells _ _ ?_) ?_) <;> first | assumption | omega | (simp; done) | (simp; omega) | (simp [go_sem, World.cell?_alloc_past, *]; done)) | (have hz := hx.size; first | omega | (simp at hz; omega))))
      case hs4 =>
        repeat' (first
          | exact FSteps.nil
          | refine FSteps.cons ?_ ?_
          | (refine FStep.off_ _ _ _ rfl rfl ?_ (fun _ => rfl) ?_; (focus (intro u w hd; simp [vOf, is, Region.binds] at hd; simp [hd])); (intro w'; exact rfl); done)
          | ((first
              | refine FStep.plain rfl ?_
              | (refine FStep.on_ _ _ _ rfl rfl ?_ ?_; (focus (intro u w hd; simp [vOf, is, Region.binds] at hd; simp [hd]))))
             intro u w hW hC hd K hK
             (try simp [vOf, is, Region.binds] at hd)
             simp only [upd, Nat.reduceEqDiff, if_true, if_false] at hK
             (try simp only [hd] at hK)
             go_simp
             (first
               | (refine hK _ _ ?_ ?_; (first | exact rfl); (repeat (first | exact Ext.refl _ | assumption | apply Ext.alloc | apply Ext.drew | apply Ext.drewN | (refine Ext.trans ?_ (by assumption))))))))
      case hV4 => (simp only [List.forall_mem_cons]; simp [stable_is])
      case fin4 =>
        intro u w2 hW2 hC2 hd
        simp only [AllV, is] at hd
        simp only [hd]
        clear hd
        have hblkB := (hW2.below.block g hgz).trans hblkA
        have hchB := hchA.ext hW2
        clear hC2 a2 a3 a4
        go_wp2
        go_ret
        exact ⟨x, hxm, rfl, ⟨i, y, hblkB, by omega, by omega⟩, hchB⟩

set_option maxRecDepth 100000 in
theorem l01Below_any (g : Nat) (B : Option Addr) (n c m : Nat) (w : World) (hc : Cur w g B n c) (hb : RB w B n) (hn : n ≤ 1048576) (hne : 0 < n → ∀ b off, B = some ⟨b, off, none⟩ → b ≠ g) (h0 : 0 < m) (h1 : m ≤ 256) :
    Calls Try.prog 28 #[.pointer (some ⟨g, 0, none⟩), .int .i64 m] w (BelowP g B n c ((m : Int) - 1) w) := by
  go_enter Try.func28, Try.ntmps28
  go_wp2_with fail
  refine (l01Byte_any g B n c _ hc hb hn hne).mono ?_
  rintro e w1 ⟨x, ⟨x0, x1⟩, rfl, hc1, hch⟩
  have hm0 : m ≠ 0 := by omega
  have e1 : x.tmod (m : Int) = x % (m : Int) := Int.tmod_eq_emod_of_nonneg x0
  have e2 := Int.emod_nonneg x (show (m : Int) ≠ 0 by omega)
  have e3 := Int.emod_lt_of_pos x (show 0 < (m : Int) by omega)
  have z := wrap_in (x % (m : Int)) (by omega) (by omega)
  go_wp2
  go_ret
  exact ⟨_, ⟨e2, by omega⟩, rfl, hc1, hch⟩

/-- what a point's draw leaves -/
def PointP (g : Nat) (B : Option Addr) (n c : Nat) (w : World) (e : Ending) (w' : World) : Prop :=
  ∃ x y : Int, ((-2 ≤ x ∧ x ≤ 6) ∧ (-2 ≤ y ∧ y ≤ 6)) ∧ e = .returned (.agg #[.int .i64 x, .int .i64 y]) ∧ Cur w' g B n c ∧ Only g w w'

set_option maxRecDepth 100000 in
set_option maxHeartbeats 800000 in
theorem l02Point_any (g : Nat) (B : Option Addr) (n c : Nat) (w : World) (hc : Cur w g B n c) (hb : RB w B n) (hn : n ≤ 1048576) (hne : 0 < n → ∀ b off, B = some ⟨b, off, none⟩ → b ≠ g) (hg : g < w.heap.size) :
    Calls Try.prog 58 #[.pointer (some ⟨g, 0, none⟩)] w (PointP g B n c w) := by
  have hcA : Cur (w.alloc (.cells #[.int .i64 0, .int .i64 0] 28)) g B n c := by
    obtain ⟨i, h, h1, h2⟩ := hc
    exact ⟨i, h, (((Ext.refl w).alloc _).below.block g hg).trans h1, h2⟩
  have hbA := hb.ext (show Ext w (w.alloc (.cells #[.int .i64 0, .int .i64 0] 28)) by (repeat (first | exact Ext.refl _ | assumption | apply Ext.alloc | apply Ext.drew | apply Ext.drewN | (refine Ext.trans ?_ (by assumption)))))
  go_enter Try.func58, Try.ntmps58
  go_wp2_with fail
  refine (l01Below_any g B n c 9 _ hcA hbA hn hne (by omega) (by omega)).mono ?_
  rintro e w1 ⟨x, ⟨x0, x1⟩, rfl, hc1, o1⟩
  have hb1 := hbA.only o1 hne
  go_wp2_with fail
  refine (l01Below_any g B n c 9 _ hc1 hb1 hn hne (by omega) (by omega)).mono ?_
  rintro e w2 ⟨y, ⟨y0, y1⟩, rfl, hc2, o2⟩
  have hgq : w.heap.size ≠ g := by omega
  have hA : (w.alloc (.cells #[.int .i64 0, .int .i64 0] 28)).heap.size = w.heap.size + 1 := by simp
  have hs1 := o1.size
  have hs2 := o2.size
  have hblk : w2.heap[w.heap.size]? = some (.cells #[.int .i64 0, .int .i64 0] 28 (0, 0)) := (o2.block _ (by omega) hgq).trans ((o1.block _ (by omega) hgq).trans (heap_alloc_new w _))
  have hlt2 : w.heap.size < w2.heap.size := by omega
  have b0 : w2.cell? ⟨w.heap.size, 0, none⟩ = some (.int .i64 0) := by simp [World.cell?, hblk]
  have b1 : w2.cell? ⟨w.heap.size, 1, none⟩ = some (.int .i64 0) := by simp [World.cell?, hblk]
  have b2 : w2.frozen? ⟨w.heap.size, 0, none⟩ = false := by simp [World.frozen?, hblk]
  have b3 : w2.frozen? ⟨w.heap.size, 1, none⟩ = false := by simp [World.frozen?, hblk]
  have o3 : Only g w w2 := ((Only.of_ext ((Ext.refl w).alloc _)).trans o1).trans o2
  clear hA hs1 hs2 hblk hb1 hbA hcA
  go_wp2
  refine bodyPost_ret (v := .agg #[.int .i64 (x - 2), .int .i64 (y - 2)]) (by simp [results, Try.results58, go_sem, b0, b1]) rfl ⟨_, _, ⟨⟨?_, ?_⟩, ?_, ?_⟩, rfl, ?_, (o3.setNew (Nat.le_refl _) 0 _).setNew (Nat.le_refl _) 1 _⟩
  · omega
  · omega
  · omega
  · omega
  · obtain ⟨i, h, h1, h2⟩ := hc2
    exact ⟨i, h, ((Below.heap_setCell _ _ _ _ (by simpa using hgq.symm)).trans (Below.heap_setCell _ _ _ _ (by simpa using hgq.symm))).trans h1, h2⟩

/-- a draw of a bool -/
def OnceP (g : Nat) (B : Option Addr) (n c : Nat) (w : World) (e : Ending) (w' : World) : Prop :=
  ∃ b : Bool, e = .returned (.bool b) ∧ Cur w' g B n c ∧ Only g w w'

end Go.Proofs.Ytjccilpjaaiicaa

namespace Go.Proofs.Ytjccilpjaaiicaa
open Go.RowKit Go.ChangeShapes Go.WideShapes Go.Joins Go.Deep

/-- an argument that is a slice of bytes -/
theorem open_bytes {P : Program} {H : Type} {enc : TypeId × Value → H} {w : World} {base : Nat} {spare : Nat → Bool} {held : Bool} {r : Reach} {b0 : Nat} {t e : TypeId} {v : Value} {d : DataW H} {p : List MemPlace} (hs : P.underlying t = some (.slice e)) (he : P.underlying e = some (.int .u8)) (hC : P.cellsOf e = 1)
    (hv : Value.okWide P w r b0 t v) (h : DataW.Trod enc P w base spare held t v d p) :
    ∃ (A : Option Addr) (n c : Nat), v = .slice A n c ∧ n ≤ c ∧ c ≤ maxLen ∧ RB w A n := by
  obtain ⟨a, len, cap, rfl⟩ := okWide_slice hs hv
  obtain ⟨fuel, hf⟩ := h
  rcases open_ints hs he hC hf with ⟨h1, _⟩ | ⟨b, len', cap', zs, h1, _, hlc, hm, hz, _, hcell, hwf⟩
  · simp [Value.cells] at h1
    obtain ⟨rfl, rfl, rfl⟩ := h1
    exact ⟨none, 0, 0, rfl, Nat.le_refl _, by unfold maxLen; omega, fun h => absurd h (by omega)⟩
  · simp [Value.cells] at h1
    obtain ⟨rfl, rfl, rfl⟩ := h1
    have hzl : len ≤ zs.length := by rw [hz]; split <;> omega
    refine ⟨some b, len, cap, rfl, hlc, hm, fun h0 => ?_⟩
    obtain ⟨b, off, spot⟩ := b
    have hspot : spot = none := by
      have h1 := hcell 0 (by omega)
      simpa [Addr.add] using World.cell?_spot h1
    subst hspot
    have ad : ∀ (b off j : Nat), (Addr.add ⟨b, off, none⟩ j) = ⟨b, off + j, none⟩ := fun b off j => by
      unfold Addr.add
      split
      · subst_vars; rfl
      · rfl
    refine ⟨b, off, rfl, ?_, fun k hk => ?_⟩
    · have h1 := hcell 0 (by omega)
      rw [ad] at h1
      exact block_lt_of_cell h1
    · have h1 := hcell k (by omega)
      rw [ad] at h1
      have h2 := hwf (zs.getD k 0) (by rw [List.getD_eq_getElem?_getD, List.getElem?_eq_getElem (by omega)]; exact List.getElem_mem _)
      simp [Lit.wf] at h2
      have e1 : IntKind.u8.min = 0 := by decide +kernel
      have e2 : IntKind.u8.max = 255 := by decide +kernel
      rw [e1, e2] at h2
      exact ⟨_, h1, h2.1, h2.2⟩

theorem big_any (B : Option Addr) (n c : Nat) (w : World) :
    Calls Try.prog 5 #[.slice B n c] w fun e w' => e = .returned (.bool (decide ((1048576 : Int) < (n : Int)))) ∧ w = w' := by
  go_enter Try.func5, Try.ntmps5
  go_wp2
  go_ret
  exact ⟨rfl, rfl⟩

set_option maxRecDepth 100000 in
set_option maxHeartbeats 800000 in
theorem l01BelowN_any (g : Nat) (B : Option Addr) (n c m : Nat) (w : World) (hc : Cur w g B n c) (hb : RB w B n) (hn : n ≤ 1048576) (hne : 0 < n → ∀ b off, B = some ⟨b, off, none⟩ → b ≠ g) (h0 : 256 < m) (h1 : m ≤ 4294967296) :
    Calls Try.prog 28 #[.pointer (some ⟨g, 0, none⟩), .int .i64 m] w (BelowP g B n c ((m : Int) - 1) w) := by
  go_enter Try.func28, Try.ntmps28
  go_wp2_with fail
  refine (l01Byte_any g B n c _ hc hb hn hne).mono ?_
  rintro e w1 ⟨x, ⟨x0, x1⟩, rfl, hc1, o1⟩
  have hb1 := hb.only o1 hne
  go_wp2_with fail
  refine (l01Byte_any g B n c _ hc1 hb1 hn hne).mono ?_
  rintro e w2 ⟨y, ⟨y0, y1⟩, rfl, hc2, o2⟩
  have hb2 := hb1.only o2 hne
  go_wp2_with fail
  refine (l01Byte_any g B n c _ hc2 hb2 hn hne).mono ?_
  rintro e w3 ⟨z, ⟨z0, z1⟩, rfl, hc3, o3⟩
  have hb3 := hb2.only o3 hne
  go_wp2_with fail
  refine (l01Byte_any g B n c _ hc3 hb3 hn hne).mono ?_
  rintro e w4 ⟨u, ⟨u0, u1⟩, rfl, hc4, o4⟩
  have hm0 : m ≠ 0 := by omega
  obtain ⟨s, hs⟩ : ∃ s : Int, s = x * 16777216 + y * 65536 + z * 256 + u := ⟨_, rfl⟩
  have e0 : 0 ≤ s := by omega
  have e1 : s.tmod (m : Int) = s % (m : Int) := Int.tmod_eq_emod_of_nonneg e0
  have e2 := Int.emod_nonneg s (show (m : Int) ≠ 0 by omega)
  have e3 := Int.emod_lt_of_pos s (show 0 < (m : Int) by omega)
  have z1' := wrap_in (s % (m : Int)) (by omega) (by omega)
  rw [hs] at e1 z1'
  clear hb1 hb2 hb3
  have HS := hide hs
  clear hs
  go_wp2
  go_ret
  exact ⟨_, ⟨by have := HS.out; rw [← this]; exact e2, by have := HS.out; rw [← this]; omega⟩, rfl, hc4, ((o1.trans o2).trans o3).trans o4⟩

/-- a drawn number of an int's size -/
def NumP (g : Nat) (B : Option Addr) (n c : Nat) (w : World) (e : Ending) (w' : World) : Prop :=
  ∃ x : Int, (-9223372036854775808 ≤ x ∧ x ≤ 9223372036854775807) ∧ e = .returned (.int .i64 x) ∧ Cur w' g B n c ∧ Only g w w'

set_option maxRecDepth 100000 in
set_option maxHeartbeats 800000 in
theorem l01PickInt_any (g : Nat) (B : Option Addr) (n c b m : Nat) (w : World) (hc : Cur w g B n c) (hb : RB w B n) (hn : n ≤ 1048576) (hne : 0 < n → ∀ b off, B = some ⟨b, off, none⟩ → b ≠ g) (hbg : b ≠ g) (hbw : b < w.heap.size) (h0 : 0 < m) (h1 : m ≤ 256)
    (hcell : ∀ k, k < m → ∃ x : Int, w.cell? ⟨b, k, none⟩ = some (.int .i64 x) ∧ -9223372036854775808 ≤ x ∧ x ≤ 9223372036854775807) :
    Calls Try.prog 59 #[.pointer (some ⟨g, 0, none⟩), .slice (some ⟨b, 0, none⟩) m m] w (NumP g B n c w) := by
  go_enter Try.func59, Try.ntmps59
  go_wp2_with fail
  refine (l01Below_any g B n c m _ hc hb hn hne h0 h1).mono ?_
  rintro e w1 ⟨x, ⟨x0, x1⟩, rfl, hc1, o1⟩
  obtain ⟨q, rfl⟩ := Int.eq_ofNat_of_zero_le x0
  obtain ⟨v, hv, v0, v1⟩ := hcell q (by omega)
  have hv1 := (o1.cell hbw hbg q).trans hv
  have hq : (q : Int) < (m : Int) := by omega
  clear hv hcell
  go_wp2
  go_ret
  exact ⟨v, ⟨v0, v1⟩, rfl, hc1, o1⟩

theorem lits10 (w : World) (a0 a1 a2 a3 a4 a5 a6 a7 a8 a9 : Int) (T : TypeId) (Q : Int → Prop) (h0 : Q a0) (h1 : Q a1) (h2 : Q a2) (h3 : Q a3) (h4 : Q a4) (h5 : Q a5) (h6 : Q a6) (h7 : Q a7) (h8 : Q a8) (h9 : Q a9) :
    ∀ k, k < 10 → ∃ x : Int, (w.alloc (.cells #[.int .i64 a0, .int .i64 a1, .int .i64 a2, .int .i64 a3, .int .i64 a4, .int .i64 a5, .int .i64 a6, .int .i64 a7, .int .i64 a8, .int .i64 a9] T)).cell? ⟨w.heap.size, k, none⟩ = some (.int .i64 x) ∧ Q x := by
  intro k hk
  have h := heap_alloc_new w (.cells #[.int .i64 a0, .int .i64 a1, .int .i64 a2, .int .i64 a3, .int .i64 a4, .int .i64 a5, .int .i64 a6, .int .i64 a7, .int .i64 a8, .int .i64 a9] T)
  simp only [World.cell?, h]
  match k, hk with
  | 0, _ => exact ⟨_, rfl, h0⟩
  | 1, _ => exact ⟨_, rfl, h1⟩
  | 2, _ => exact ⟨_, rfl, h2⟩
  | 3, _ => exact ⟨_, rfl, h3⟩
  | 4, _ => exact ⟨_, rfl, h4⟩
  | 5, _ => exact ⟨_, rfl, h5⟩
  | 6, _ => exact ⟨_, rfl, h6⟩
  | 7, _ => exact ⟨_, rfl, h7⟩
  | 8, _ => exact ⟨_, rfl, h8⟩
  | 9, _ => exact ⟨_, rfl, h9⟩
  | k + 10, hk => exact absurd hk (by omega)

theorem hp_lt {w : World} {b : Nat} {o : Obj} (h : w.heap[b]? = some o) : b < w.heap.size := by
  rcases Nat.lt_or_ge b w.heap.size with h2 | h2
  · exact h2
  · rw [Array.getElem?_eq_none h2] at h; cases h

theorem Cur.alloc {w : World} {g : Nat} {B : Option Addr} {n c : Nat} (h : Cur w g B n c) (o : Obj) : Cur (w.alloc o) g B n c := by
  obtain ⟨i, hh, h1, h2⟩ := h
  exact ⟨i, hh, (((Ext.refl w).alloc o).below.block g (hp_lt h1)).trans h1, h2⟩
theorem Cur.lt {w : World} {g : Nat} {B : Option Addr} {n c : Nat} (h : Cur w g B n c) : g < w.heap.size := by
  obtain ⟨i, hh, h1, _⟩ := h
  exact hp_lt h1

end Go.Proofs.Ytjccilpjaaiicaa

namespace Go.Proofs.Ytjccilpjaaiicaa
open Go.RowKit

/-- what a step may do to the world -/
structure PreR (R : World → World → Prop) : Prop where
  refl : ∀ w, R w w
  trans : ∀ {a b c}, R a b → R b c → R a c
  drew : ∀ w, R w w.drew

def StableT (R : World → World → Prop) (p : Value → World → Prop) : Prop := ∀ v w w', p v w → R w w' → p v w'
theorem stableT_is {R : World → World → Prop} (x : Value) : StableT R (is x) := fun _ _ _ h _ => h

section
variable {P : Program} {ops : Array Oper} {Q : Exit → Act → World → Prop}
/-- What is owed at operation i. -/
def TStep (R : World → World → Prop) (P : Program) (ops : Array Oper) (Q : Exit → Act → World → Prop) (fr : (Nat → Value) → Act) (V : Nat → Value → World → Prop) (C : World → Prop) (W : World) (i : Nat) (o : Oper) : Prop :=
  ∀ (u : Nat → Value) (w : World), R W w → C w → (∀ e ∈ o.after.toList, Region.binds .any e = true → V e.on (u e.on) w) → ∀ K : Act → World → Prop, (∀ v w', V i v w' → R w w' → K (fr (upd u i v)) w') →
    if Region.wanted o (yielded ops (fr u).tmps) then o.wp P (fr u) w K Q else K ((fr u).put o.dst undef) w

def TSteps (R : World → World → Prop) (P : Program) (ops : Array Oper) (Q : Exit → Act → World → Prop) (fr : (Nat → Value) → Act) (V : Nat → Value → World → Prop) (C : World → Prop) (W : World) : Nat → List Oper → Prop
  | _, [] => True
  | i, o :: l => TStep R P ops Q fr V C W i o ∧ TSteps R P ops Q fr V C W (i + 1) l

variable {R : World → World → Prop}

theorem TSteps.get {fr : (Nat → Value) → Act} {V : Nat → Value → World → Prop} {C : World → Prop} {W : World} : ∀ (l : List Oper) (n : Nat), TSteps R P ops Q fr V C W n l → ∀ (i : Nat) (o : Oper), l[i]? = some o → TStep R P ops Q fr V C W (n + i) o
  | [], _, _, i, o, h => by simp at h
  | x :: l, n, hs, 0, o, h => by
    simp at h
    subst h
    exact hs.1
  | x :: l, n, hs, i + 1, o, h => by
    have := TSteps.get l (n + 1) hs.2 i o (by simpa using h)
    rw [show n + 1 + i = n + (i + 1) from by omega] at this
    exact this

theorem TSteps.nil {fr : (Nat → Value) → Act} {V : Nat → Value → World → Prop} {C : World → Prop} {W : World} {i : Nat} : TSteps R P ops Q fr V C W i [] := trivial

theorem TSteps.cons {fr : (Nat → Value) → Act} {V : Nat → Value → World → Prop} {C : World → Prop} {W : World} {i : Nat} {o : Oper} {l : List Oper} (h : TStep R P ops Q fr V C W i o) (t : TSteps R P ops Q fr V C W (i + 1) l) : TSteps R P ops Q fr V C W i (o :: l) := ⟨h, t⟩

theorem TStep.plain {fr : (Nat → Value) → Act} {V : Nat → Value → World → Prop} {C : World → Prop} {W : World} {i : Nat} {o : Oper} (hg : o.guard = none)
    (h : ∀ (u : Nat → Value) (w : World), R W w → C w → (∀ e ∈ o.after.toList, Region.binds .any e = true → V e.on (u e.on) w) → ∀ K : Act → World → Prop, (∀ v w', V i v w' → R w w' → K (fr (upd u i v)) w') → o.wp P (fr u) w K Q) : TStep R P ops Q fr V C W i o := by
  intro u w h1 h2 h3 K hK
  rw [if_pos (by simp [Region.wanted, hg])]
  exact h u w h1 h2 h3 K hK

theorem vOf_stableT {l : List (Value → World → Prop)} (h : ∀ p ∈ l, StableT R p) : ∀ i v w w', vOf l i v w → R w w' → vOf l i v w' := by
  intro i v w w' hv hx
  unfold vOf at *
  by_cases hi : i < l.length
  · rw [List.getD_eq_getElem?_getD, List.getElem?_eq_getElem hi] at *
    exact h _ (List.getElem_mem hi) v w w' hv hx
  · rw [List.getD_eq_getElem?_getD, List.getElem?_eq_none (by omega)] at *
    exact hv

theorem wp_region_flowT (hR : PreR R) {id : Nat} (hm : P.follows .mixedOrders = true) (hb : backB ops = true) (fr : (Nat → Value) → Act) (u0 : Nat → Value) (V : Nat → Value → World → Prop) (C : World → Prop) (W : World)
    (hC : ∀ w, R W w → C w) (hV : ∀ i v w w', V i v w → R w w' → V i v w')
    (hs : TSteps R P ops Q fr V C W 0 ops.toList)
    (fin : ∀ u w, R W w → C w → (∀ i, i < ops.size → V i (u i) w) → Q .normal (fr u) w) : (Code.region id ops true).wp P Q (fr u0) W := by
  refine wp_region_any hm ?_
  have key : ∀ (fuel : Nat) (listed : Array Bool) (u : Nat → Value) (w : World), listed.size = ops.size → fuel + listed.toList.count true = ops.size → (∀ i, listed.getD i false = true → V i (u i) w) → R W w →
      wpAny P .any ops Q fuel listed (fr u) w := by
    intro fuel
    induction fuel with
    | zero =>
      intro listed u w hz hc hv hx
      have hall : ∀ i, i < ops.size → listed.getD i false = true := by
        intro i hi
        have := all_of_count listed.toList (by simp at hc ⊢; omega) i (by simp; omega)
        simp at this
        simp [Array.getD, hz, hi, (Array.getElem?_eq_some_iff.1 this).2]
      refine ⟨?_, fin u w hx (hC w hx) (fun i hi => hv i (hall i hi))⟩
      rw [List.eq_nil_iff_forall_not_mem]
      intro i hi
      obtain ⟨h1, h2, _⟩ := ready_of hi
      have h3 := hall i h1
      have hl : i < listed.size := by omega
      simp [Array.getD, hl] at h2 h3
      rw [h2] at h3
      cases h3
    | succ fuel ih =>
      intro listed u w hz hc hv hx
      refine ⟨fun hr => fin u w hx (hC w hx) (fun i hi => hv i (all_listed hz hb hr i hi)), fun i hi => ?_⟩
      obtain ⟨h1, h2, h3⟩ := ready_of hi
      have hl : i < listed.size := by omega
      have h2' : listed[i]'hl = false := by simpa [Array.getD, hl] using h2
      have ho : ops[i]? = some (ops[i]'h1) := Array.getElem?_eq_getElem h1
      have hst := TSteps.get ops.toList 0 hs i (ops[i]'h1) (by rw [Array.getElem?_toList]; exact ho)
      rw [Nat.zero_add] at hst
      have hgo := hst u w hx (hC w hx) (fun e he hbd => hv _ (h3 _ ho e he hbd)) (wpAny P .any ops Q fuel (listed.setIfInBounds i true)) (fun v w' hvi hx' => by
        refine ih _ _ _ (by simp [hz]) ?_ ?_ (hR.trans hx hx')
        · rw [Array.toList_setIfInBounds, count_set_true _ _ (by simp [Array.getElem?_eq_getElem hl, h2'])]
          omega
        · intro j hj
          by_cases e : j = i
          · subst e; simp only [upd, if_true]; exact hvi
          · have : listed.getD j false = true := by
              simp only [Array.getD_eq_getD_getElem?, Array.getElem?_setIfInBounds] at hj ⊢
              rwa [if_neg (by omega)] at hj
            simp only [upd, if_neg e]
            exact hV _ _ _ _ (hv j this) hx')
      unfold wpOp
      rw [ho]
      simp only
      split
      · rename_i hw
        rw [if_pos hw] at hgo
        exact .inl hgo
      · rename_i hw
        rw [if_neg hw] at hgo
        exact hgo
  refine key ops.size (Array.replicate ops.size false) u0 _ (by simp) (by simp [List.count_replicate]) ?_ (hR.drew W)
  intro i h
  exfalso
  simp only [Array.getD_eq_getD_getElem?, Array.getElem?_replicate] at h
  split at h <;> simp at h

theorem wp_flowT (hR : PreR R) {id : Nat} (hm : P.follows .mixedOrders = true) (hb : backB ops = true) (fr : (Nat → Value) → Act) (u0 : Nat → Value) (l : List (Value → World → Prop)) (C : World → Prop) (W : World) (hl : ops.size = l.length)
    (hC : ∀ w, R W w → C w) (hs : TSteps R P ops Q fr (vOf l) C W 0 ops.toList) (hV : ∀ p ∈ l, StableT R p)
    (fin : ∀ u w, R W w → C w → AllV l 0 u w → Q .normal (fr u) w) : (Code.region id ops true).wp P Q (fr u0) W :=
  wp_region_flowT hR hm hb fr u0 (vOf l) C W hC (vOf_stableT hV) hs fun u w h1 h2 h3 => fin u w h1 h2 (allV_of l 0 u w fun i hi => by rw [Nat.zero_add]; exact h3 i (by omega))
end

end Go.Proofs.Ytjccilpjaaiicaa

namespace Go.Proofs.Ytjccilpjaaiicaa
open Go.RowKit

section
variable {P : Program} {ops : Array Oper} {Q : Exit → Act → World → Prop} {R : World → World → Prop}
theorem wp_flow_tailT (hR : PreR R) {id : Nat} (m : Nat) (hm : P.follows .mixedOrders = true) (hb : backB ops = true) (hf : forcedB ops m = true) (hmn0 : decide (m < ops.size) = true) (fr : (Nat → Value) → Act) (u0 : Nat → Value) (l : List (Value → World → Prop)) (C : World → Prop) (W : World) (hl : m = l.length)
    (hC : ∀ w, R W w → C w) (hs : TSteps R P ops Q fr (vOf l) C W 0 (ops.toList.take m)) (hV : ∀ p ∈ l, StableT R p)
    (fin : ∀ u w, R W w → C w → AllV l 0 u w → wpList P ops Q (ops.toList.drop m) (fr u) w) : (Code.region id ops true).wp P Q (fr u0) W := by
  have hmn : m < ops.size := of_decide_eq_true hmn0
  refine wp_region_any hm ?_
  have key : ∀ (fuel : Nat) (listed : Array Bool) (u : Nat → Value) (w : World), listed.size = ops.size → fuel + listed.toList.count true = ops.size → (∀ i, listed.getD i false = true → i < m ∧ vOf l i (u i) w) → DClosed ops listed → R W w →
      wpAny P .any ops Q fuel listed (fr u) w := by
    intro fuel
    induction fuel with
    | zero =>
      intro listed u w hz hc hv _ _
      exfalso
      have := all_of_count listed.toList (by simp at hc ⊢; omega) m (by simp; omega)
      simp at this
      have h2 := (hv m (by simp [Array.getD, hz, hmn, (Array.getElem?_eq_some_iff.1 this).2])).1
      omega
    | succ fuel ih =>
      intro listed u w hz hc hv hcl hx
      by_cases hall : ∀ j, j < m → listed.getD j false = true
      · have hrest : ∀ j, m ≤ j → listed.getD j false = false := by
          intro j hj
          cases h : listed.getD j false with
          | false => rfl
          | true => have := (hv j h).1; omega
        have hcount : listed.toList.count true = m := by
          refine count_first _ m (by simp; omega) (fun j hj => ?_) (fun j hj hj2 => ?_)
          · have hjl : j < listed.size := by omega
            have := hall j hj
            simp [Array.getD, hjl] at this
            simp [hjl, this]
          · have hjl : j < listed.size := by simpa using hj2
            have := hrest j hj
            simp [Array.getD, hjl] at this
            simp [hjl, this]
        exact wp_tail hb hf (fuel + 1) m (by omega) (Nat.le_refl _) listed _ w hz hall hrest (fin u w hx (hC w hx) (allV_of l 0 u w fun i hi => by rw [Nat.zero_add]; exact (hv i (hall i (by omega))).2))
      · refine ⟨fun hr => absurd (fun j hj => all_listed hz hb hr j (by omega)) hall, fun i hi => ?_⟩
        obtain ⟨h1, h2, h3⟩ := ready_of hi
        have him : i < m := by
          rcases Nat.lt_or_ge i m with hh | hh
          · exact hh
          · exact absurd (fun j hj => forced hf hcl hi hh j (by omega)) hall
        have hil : i < listed.size := by omega
        have h2' : listed[i]'hil = false := by simpa [Array.getD, hil] using h2
        have ho : ops[i]? = some (ops[i]'h1) := Array.getElem?_eq_getElem h1
        have hst := TSteps.get (ops.toList.take m) 0 hs i (ops[i]'h1) (by rw [List.getElem?_take_of_lt him, Array.getElem?_toList]; exact ho)
        rw [Nat.zero_add] at hst
        have hgo := hst u w hx (hC w hx) (fun e he hbd => (hv _ (h3 _ ho e he hbd)).2) (wpAny P .any ops Q fuel (listed.setIfInBounds i true)) (fun v w' hvi hx' => by
          refine ih _ _ _ (by simp [hz]) ?_ ?_ ?_ (hR.trans hx hx')
          · rw [Array.toList_setIfInBounds, count_set_true _ _ (by simp [Array.getElem?_eq_getElem hil, h2'])]
            omega
          · intro j hj
            by_cases e : j = i
            · subst e; simp only [upd, if_true]; exact ⟨him, hvi⟩
            · have : listed.getD j false = true := by
                simp only [Array.getD_eq_getD_getElem?, Array.getElem?_setIfInBounds] at hj ⊢
                rwa [if_neg (by omega)] at hj
              simp only [upd, if_neg e]
              exact ⟨(hv j this).1, vOf_stableT hV _ _ _ _ (hv j this).2 hx'⟩
          · intro j o hj hoj e he hbd
            have hset : ∀ k, listed.getD k false = true → (listed.setIfInBounds i true).getD k false = true := by
              intro k hk
              simp only [Array.getD_eq_getD_getElem?, Array.getElem?_setIfInBounds] at hk ⊢
              by_cases e : i = k
              · rw [if_pos e, if_pos (by omega)]; rfl
              · rwa [if_neg e]
            refine hset _ ?_
            by_cases e' : j = i
            · subst e'
              exact h3 o hoj e he hbd
            · refine hcl j o ?_ hoj e he hbd
              simp only [Array.getD_eq_getD_getElem?, Array.getElem?_setIfInBounds] at hj ⊢
              rwa [if_neg (by omega)] at hj)
        unfold wpOp
        rw [ho]
        simp only
        split
        · rename_i hw
          rw [if_pos hw] at hgo
          exact .inl hgo
        · rename_i hw
          rw [if_neg hw] at hgo
          exact hgo
  have hno : ∀ i, ¬ (Array.replicate ops.size false).getD i false = true := by
    intro i h
    simp only [Array.getD_eq_getD_getElem?, Array.getElem?_replicate] at h
    split at h <;> simp at h
  exact key ops.size (Array.replicate ops.size false) u0 _ (by simp) (by simp [List.count_replicate]) (fun i h => absurd h (hno i)) (fun i o h => absurd h (hno i)) (hR.drew W)
end

end Go.Proofs.Ytjccilpjaaiicaa

namespace Go.Proofs.Ytjccilpjaaiicaa
open Go.RowKit

theorem info_ipt : (Try.prog.info? 28).map (fun i => (i.zero, i.size, i.bytes)) = some (some (.agg #[.int .i64 0, .int .i64 0]), 2, 16) := by kernel_rfl

theorem take_set_rep (l : List (Int × Int)) (k : Nat) (h : k < l.length) : l.take (k + 1) ++ List.replicate (l.length - (k + 1)) (0, 0) = (l.take k ++ List.replicate (l.length - k) (0, 0)).set k (gx l k, gy l k) := by
  have e : l.length - k = (l.length - (k + 1)) + 1 := by omega
  rw [List.set_append_right _ _ (by simp; omega), List.length_take, Nat.min_eq_left (by omega), Nat.sub_self, e, List.replicate_succ, List.set_cons_zero, List.take_succ_eq_append_getElem h]
  have hg : (gx l k, gy l k) = l[k] := by
    unfold gx gy
    rw [List.getD_eq_getElem?_getD, List.getElem?_eq_getElem h]
    rfl
  rw [hg, List.append_assoc]
  rfl

def samePt (a b c d : Int) : Bool := a == c && b == d

def eqPts (a b : List (Int × Int)) : Bool := decide (a = b)

theorem gxy_ext (a b : List (Int × Int)) (hl : a.length = b.length) (h : ∀ k, k < a.length → gx a k = gx b k ∧ gy a k = gy b k) : a = b := by
  refine List.ext_getElem hl fun k h1 h2 => ?_
  have := h k h1
  unfold gx gy at this
  simp only [List.getD_eq_getElem?_getD, List.getElem?_eq_getElem h1, List.getElem?_eq_getElem h2, Option.getD_some] at this
  exact Prod.ext this.1 this.2

end Go.Proofs.Ytjccilpjaaiicaa

namespace Go.Proofs.Ytjccilpjaaiicaa
open Go.RowKit

theorem info_iwall : (Try.prog.info? 56).map (fun i => (i.zero, i.size, i.bytes)) = some (some (.agg #[.int .i64 0, .int .i64 0, .int .i64 0, .int .i64 0]), 4, 32) := by kernel_rfl

def nx (l : List (Int × Int)) (k : Nat) : Nat := (k + 1) % l.length

/-- the cells of the first n walls -/
def flatW (l : List (Int × Int)) (n : Nat) : List Value := (List.range n).flatMap fun k => [.int .i64 (gx l k), .int .i64 (gy l k), .int .i64 (gx l (nx l k)), .int .i64 (gy l (nx l k))]

theorem flatW_succ (l : List (Int × Int)) (n : Nat) : flatW l (n + 1) = flatW l n ++ [.int .i64 (gx l n), .int .i64 (gy l n), .int .i64 (gx l (nx l n)), .int .i64 (gy l (nx l n))] := by
  unfold flatW
  rw [List.range_succ, List.flatMap_append]
  simp

theorem flatW_length (l : List (Int × Int)) (n : Nat) : (flatW l n).length = n * 4 := by
  induction n with
  | zero => rfl
  | succ n ih => rw [flatW_succ, List.length_append, ih]; simp; omega

theorem flatW_get (l : List (Int × Int)) (n k : Nat) (h : k < n) : (flatW l n)[k * 4]? = some (.int .i64 (gx l k)) ∧ (flatW l n)[k * 4 + 1]? = some (.int .i64 (gy l k)) ∧ (flatW l n)[k * 4 + 2]? = some (.int .i64 (gx l (nx l k))) ∧ (flatW l n)[k * 4 + 3]? = some (.int .i64 (gy l (nx l k))) := by
  induction n with
  | zero => omega
  | succ n ih =>
    rw [flatW_succ]
    by_cases e : k = n
    · subst e
      rw [List.getElem?_append_right (by rw [flatW_length]; omega), List.getElem?_append_right (by rw [flatW_length]; omega), List.getElem?_append_right (by rw [flatW_length]; omega), List.getElem?_append_right (by rw [flatW_length]; omega), flatW_length]
      simp
    · obtain ⟨a, b, c, d⟩ := ih (by omega)
      rw [List.getElem?_append_left (by rw [flatW_length]; omega), List.getElem?_append_left (by rw [flatW_length]; omega), List.getElem?_append_left (by rw [flatW_length]; omega), List.getElem?_append_left (by rw [flatW_length]; omega)]
      exact ⟨a, b, c, d⟩

/-- A slice of the walls of l, in a block of its own. -/
def RW (w : World) (A : Option Addr) (l : List (Int × Int)) : Prop :=
  ∀ k, k < l.length → ∃ g, A = some ⟨g, 0, none⟩ ∧ g < w.heap.size ∧ w.cell? ⟨g, k * 4, none⟩ = some (.int .i64 (gx l k)) ∧ w.cell? ⟨g, k * 4 + 1, none⟩ = some (.int .i64 (gy l k)) ∧
    w.cell? ⟨g, k * 4 + 2, none⟩ = some (.int .i64 (gx l (nx l k))) ∧ w.cell? ⟨g, k * 4 + 3, none⟩ = some (.int .i64 (gy l (nx l k)))

theorem RW.ext {w w' : World} {A : Option Addr} {l : List (Int × Int)} (h : RW w A l) (hx : Ext w w') : RW w' A l := fun k hk =>
  let ⟨g, e, h0, h1, h2, h3, h4⟩ := h k hk
  ⟨g, e, Nat.lt_of_lt_of_le h0 hx.size, (hx.cells _ _ h0).trans h1, (hx.cells _ _ h0).trans h2, (hx.cells _ _ h0).trans h3, (hx.cells _ _ h0).trans h4⟩

theorem RW.of_own {w : World} {base e : Nat} {A : Option Addr} {c : Nat} {l : List (Int × Int)} (h : w.ownsRow base e 4 (.slice A l.length c) l.length (flatW l l.length)) : RW w A l := by
  intro k hk
  rcases h.2 with ⟨h1, h2⟩ | ⟨g, cap, cur, hv, hb, hh, _⟩
  · omega
  · injection hv with hA _ hc
    subst hA hc
    obtain ⟨a, b, c, d⟩ := flatW_get l l.length k hk
    have hlt : g < w.heap.size := by
      rcases Nat.lt_or_ge g w.heap.size with h2 | h2
      · exact h2
      · rw [Array.getElem?_eq_none h2] at hh; cases hh
    exact ⟨g, rfl, hlt, (h.cellAt _ (by omega)).trans a, (h.cellAt _ (by omega)).trans b, (h.cellAt _ (by omega)).trans c, (h.cellAt _ (by omega)).trans d⟩

set_option maxRecDepth 100000 in
theorem wallsOf_any (A : Option Addr) (l : List (Int × Int)) (c : Nat) (w : World) (hp : RPts w A l) (hn : l.length ≤ 1048576) :
    Calls Try.prog 26 #[.slice A l.length c] w fun e w' => ∃ A' c', e = .returned (.slice A' l.length c') ∧ RW w' A' l ∧ Ext w w' := by
  obtain ⟨i0, hI, hZ, hS, hY⟩ := info_parts info_iwall
  go_enter Try.func26, Try.ntmps26
  go_wp2
  go_loopw [3, 9] (fun out i wr => ∃ k : Nat, k ≤ l.length ∧ i = .int .i64 k ∧ Ext w wr ∧ wr.ownsRow w.heap.size 56 4 out k (flatW l k)) (fun _ i _ => l.length - (intOf i).toNat)
  case atStart => exact ⟨0, Nat.zero_le _, rfl, (Ext.refl w).alloc _, rfl, .inr ⟨w.heap.size, 0, #[], rfl, Nat.le_refl _, heap_alloc_new w _, Nat.le_refl _, by unfold maxLen; omega, rfl, rfl⟩⟩
  case round =>
    obtain ⟨k, hk, rfl, hbl, hown⟩ := hrel
    rename_i out _
    by_cases hlt : k < l.length
    · have hnx : nx l k < l.length := Nat.mod_lt _ (by omega)
      obtain ⟨b, off, rfl, hz1, hx, hy⟩ := (hp.ext hbl).at_ hlt
      obtain ⟨b2, off2, hA2, hz2, hx2, hy2⟩ := (hp.ext hbl).at_ hnx
      injection hA2 with hA2
      injection hA2 with e1 e2 _
      subst e1 e2
      clear hz2
      unfold nx at hnx hx2 hy2
      go_wp2
      clear hx hy
      obtain ⟨q1, q2, q3, q4, q5⟩ := idx_facts ((k : Int) + 1) (k + 1) l.length (by omega) (by omega) (by omega)
      have q6 : l ≠ [] := fun e => by rw [e] at hlt; simp at hlt
      refine wp_flow_tail 12 (by kernel_rfl) (by kernel_rfl) (by kernel_rfl) (by kernel_rfl) (fun u => ⟨#[_, _, _, _, _, _, _, _, _, _, _, _, _, _, u 0, u 1, u 2, u 3, u 4, u 5, u 6, u 7, u 8, u 9, u 10, u 11, _, _, _], _⟩) (fun i => List.getD [_, _, _, _, _, _, _, _, _, _, _, _] i undef) [is ?v1_0, is ?v1_1, is ?v1_2, is ?v1_3, is ?v1_4, is ?v1_5, is ?v1_6, is ?v1_7, is ?v1_8, is ?v1_9, is ?v1_10, (SLn (wr.heap.size + 1) [.int .i64 (gx l k), .int .i64 (gy l k), .int .i64 (gx l ((k + 1) % l.length)), .int .i64 (gy l ((k + 1) % l.length))] 1)] (fun w' => w'.cell? ⟨wr.heap.size, 0, none⟩ = some (.int .i64 (gx l k)) ∧ w'.cell? ⟨wr.heap.size, 1, none⟩ = some (.int .i64 (gy l k)) ∧ w'.cell? ⟨b, off + (k + 1) % l.length * 2, none⟩ = some (.int .i64 (gx l ((k + 1) % l.length))) ∧ w'.cell? ⟨b, off + (k + 1) % l.length * 2 + 1, none⟩ = some (.int .i64 (gy l ((k + 1) % l.length))) ∧ wr.heap.size + 1 ≤ w'.heap.size) _ rfl ?hC1 ?hs1 ?hV1 ?fin1
      case hC1 => (intro w' hx; and_intros <;> (first | (refine (Eq.trans (hx.cells _ _ ?_) ?_) <;> first | assumption | omega | (simp; done) | (simp; omega) | (simp [go_sem, World.cell?_alloc_past, *]; done)) | (have hz := hx.size; first | omega | (simp at hz; omega))))
      case hs1 =>
        repeat' (first
          | exact FSteps.nil
          | refine FSteps.cons ?_ ?_
          | (refine FStep.off_ _ _ _ rfl rfl ?_ (fun _ => rfl) ?_; (focus (intro u w hd; simp [vOf, is, Region.binds] at hd; simp [hd])); (intro w'; exact rfl); done)
          | ((first
              | refine FStep.plain rfl ?_
              | (refine FStep.on_ _ _ _ rfl rfl ?_ ?_; (focus (intro u w hd; simp [vOf, is, Region.binds] at hd; simp [hd]))))
             intro u w hW hC hd K hK
             (try simp [vOf, is, Region.binds] at hd)
             simp only [upd, Nat.reduceEqDiff, if_true, if_false] at hK
             (try simp only [hd] at hK)
             go_simp
             (first
               | (refine hK _ _ ?_ ?_; (first | exact rfl | exact SLn_new _ _ hC.2.2.2.2); (repeat (first | exact Ext.refl _ | assumption | apply Ext.alloc | apply Ext.drew | apply Ext.drewN | (refine Ext.trans ?_ (by assumption))))))))
      case hV1 => (simp only [List.forall_mem_cons]; simp [stable_is, SLn_stable])
      case fin1 =>
        intro u w2 hW2 hC2 hd
        simp only [AllV, is] at hd
        have hs11 := hd.2.2.2.2.2.2.2.2.2.2.2.1
        simp only [List.drop_succ_cons, List.drop_zero]
        simp only [hd]
        clear hd
        obtain ⟨b1, hu, hb1, hb1', hcells⟩ := hs11
        have hx2w : Ext wr w2 := ((Ext.refl wr).alloc _).trans hW2
        have hown2 := ownsRow_ext hown hx2w
        simp only [hu]
        refine wpList_app _ rfl (.tmp 14) (.tmp 25) _ rfl w.heap.size 56 i0 _ 4 32 Try.underlying53 hI hZ hS hY rfl (by omega) u3 k (flatW l k) rfl hown2 ⟨b1, 0, none⟩ 1 1 _ rfl rfl (SLn.addr hcells) (by simp [Value.oneCell']) (by unfold maxLen; omega) (by omega) (Nat.le_trans hbl.size hx2w.size) ?_
        intro v' w3 hown3 hg3 _
        have hx3 : Ext w w3 := ext_grown (hbl.trans hx2w) hg3 (fun q hq => (hown2.lt q hq).1)
        clear hC2 hcells hx2 hy2 q1 q2 q3 q4 q5 hown hown2 hg3
        go_wp2
        go_roundw
        case rel => exact ⟨k + 1, by omega, by go_num, hx3, by rw [flatW_succ]; exact hown3⟩
        case measure => simp [intOf]; omega
    · have e : k = l.length := by omega
      have E := hide e
      clear e
      rcases hown.2 with ⟨rfl, h0⟩ | ⟨g, cap, cur, rfl, hr⟩
      · go_wp2
        go_ret
        exact ⟨none, 0, by rw [← E.out, h0]; rfl, fun j hj => by rw [← E.out, h0] at hj; omega, hbl⟩
      · go_wp2
        go_ret
        rw [E.out] at hown
        exact ⟨some ⟨g, 0, none⟩, cap, by rw [E.out]; rfl, RW.of_own hown, hbl⟩

end Go.Proofs.Ytjccilpjaaiicaa

