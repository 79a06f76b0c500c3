/-
  A row of numbers in a block of the call's own: known whole, marked, looked at again, compared. Rows of points out of an append.
-/
import Derived.Test.YtanagdlikoinaaaMark
import Derived.Test.YtanagdlikoinaaaJ1
namespace Go.Proofs.Ytanagdlikoinaaa
open Go.RowKit

def gi (l : List Int) (k : Nat) : Int := l.getD k 0
def ints (l : List Int) : List Value := l.map (Value.int .i64)

/-- The slice '.slice A l.length c' owns the numbers of l: its block lies in [lo, hi). -/
def OwnI (w : World) (lo hi : Nat) (T : TypeId) (A : Option Addr) (l : List Int) : Prop :=
  0 < l.length → ∃ g cs, A = some ⟨g, 0, none⟩ ∧ lo ≤ g ∧ g < hi ∧ w.heap[g]? = some (.cells cs T (0, 0)) ∧ l.length ≤ cs.size ∧ ∀ k, k < l.length → cs[k]? = some (.int .i64 (gi l k))

/-- The slice '.slice A l.length c' reads as l. -/
def RInts (w : World) (A : Option Addr) (l : List Int) : Prop :=
  0 < l.length → ∃ b off, A = some ⟨b, off, none⟩ ∧ b < w.heap.size ∧ ∀ k, k < l.length → w.cell? ⟨b, off + k, none⟩ = some (.int .i64 (gi l k))

section
variable {w w' : World} {lo hi lo' hi' : Nat} {T : TypeId} {A : Option Addr} {l : List Int}
theorem OwnI.ext (h : OwnI w lo hi T A l) (hx : Ext w w') : OwnI w' lo hi T A l := fun hl =>
  let ⟨g, cs, e, h1, h2, h3, h4⟩ := h hl
  have hlt : g < w.heap.size := by
    rcases Nat.lt_or_ge g w.heap.size with h5 | h5
    · exact h5
    · rw [Array.getElem?_eq_none h5] at h3; cases h3
  ⟨g, cs, e, h1, h2, (hx.below.block g hlt).trans h3, h4⟩
theorem OwnI.more (h : OwnI w lo hi T A l) (h1 : lo' ≤ lo) (h2 : hi ≤ hi') : OwnI w lo' hi' T A l := fun hl =>
  let ⟨g, cs, e, a1, a2, h3⟩ := h hl
  ⟨g, cs, e, by omega, by omega, h3⟩
theorem OwnI.nil : OwnI w lo hi T A [] := fun h => absurd h (by simp)
theorem OwnI.r (h : OwnI w lo hi T A l) : RInts w A l := fun hl => by
  obtain ⟨g, cs, e, a1, a2, h3, h4, h5⟩ := h hl
  have hlt : g < w.heap.size := by
    rcases Nat.lt_or_ge g w.heap.size with h6 | h6
    · exact h6
    · rw [Array.getElem?_eq_none h6] at h3; cases h3
  exact ⟨g, 0, e, hlt, fun k hk => by simp [World.cell?, h3, h5 k hk]⟩
theorem OwnI.chg (h : OwnI w lo' hi' T A l) (hc : Chg lo hi w w') (hd : hi' ≤ lo ∨ hi ≤ lo') : OwnI w' lo' hi' T A l := fun hl =>
  let ⟨g, cs, e, a1, a2, h3, h4⟩ := h hl
  ⟨g, cs, e, a1, a2, (hc.block g (by omega)).trans h3, h4⟩
theorem RInts.ext (h : RInts w A l) (hx : Ext w w') : RInts w' A l := fun hl =>
  let ⟨b, off, e, h1, h2⟩ := h hl
  ⟨b, off, e, Nat.lt_of_lt_of_le h1 hx.size, fun k hk => (hx.cells _ _ h1).trans (h2 k hk)⟩
theorem RInts.nil : RInts w A [] := fun h => absurd h (by simp)
theorem RInts.at_ (h : RInts w A l) {k : Nat} (hk : k < l.length) : ∃ b off, A = some ⟨b, off, none⟩ ∧ b < w.heap.size ∧ w.cell? ⟨b, off + k, none⟩ = some (.int .i64 (gi l k)) :=
  let ⟨b, off, e, h1, h2⟩ := h (by omega)
  ⟨b, off, e, h1, h2 k hk⟩
end

theorem ints_length (l : List Int) : (ints l).length = l.length := by simp [ints]
theorem ints_get (l : List Int) (k : Nat) (h : k < l.length) : (ints l)[k]? = some (.int .i64 (gi l k)) := by
  simp [ints, gi, List.getD_eq_getElem?_getD, h]

theorem OwnI.of_own {w : World} {base T : Nat} {A : Option Addr} {n c : Nat} {l : List Int} (h : w.ownsRow base T 1 (.slice A n c) n (ints l)) : n = l.length ∧ OwnI w base w.heap.size T A l := by
  have h1 : n = l.length := by have := h.1; rw [ints_length] at this; omega
  refine ⟨h1, fun hl => ?_⟩
  rcases h.2 with ⟨_, h2⟩ | ⟨g, cap, cur, hv, hb, hh, hcap, _, hsz, htake⟩
  · omega
  · injection hv with hA _ hc
    subst hA hc
    have hlt : g < w.heap.size := by
      rcases Nat.lt_or_ge g w.heap.size with h2 | h2
      · exact h2
      · rw [Array.getElem?_eq_none h2] at hh; cases hh
    refine ⟨g, cur, rfl, hb, hlt, hh, by omega, fun k hk => ?_⟩
    have := ints_get l k hk
    rw [← htake, List.getElem?_take, if_pos (by omega)] at this
    simpa using this

theorem OwnS.of_own {w : World} {base T : Nat} {A : Option Addr} {n c : Nat} {l : List (Int × Int)} (h : w.ownsRow base T 2 (.slice A n c) n (flat l)) : n = l.length ∧ OwnS w base w.heap.size T A l := by
  have h1 : n = l.length := by have := h.1; rw [flat_length] at this; omega
  refine ⟨h1, fun hl => ?_⟩
  rcases h.2 with ⟨_, h2⟩ | ⟨g, cap, cur, hv, hb, hh, hcap, _, hsz, htake⟩
  · omega
  · injection hv with hA _ hc
    subst hA hc
    have hlt : g < w.heap.size := by
      rcases Nat.lt_or_ge g w.heap.size with h2 | h2
      · exact h2
      · rw [Array.getElem?_eq_none h2] at hh; cases hh
    refine ⟨g, rfl, hb, hlt, cur, hh, by omega, fun k hk => ?_⟩
    obtain ⟨p1, p2⟩ := flat_get l k hk
    rw [← htake, List.getElem?_take, if_pos (by omega)] at p1 p2
    exact ⟨by simpa using p1, by simpa using p2⟩

/-- a call that returns a new slice of the numbers x -/
def RetI (T : TypeId) (x : List Int) (w : World) (e : Ending) (w' : World) : Prop := ∃ A' c', e = .returned (.slice A' x.length c') ∧ OwnI w' w.heap.size w'.heap.size T A' x ∧ Ext w w'

/-- a call that returns a new slice of the points x -/
def RetP (T : TypeId) (x : List (Int × Int)) (w : World) (e : Ending) (w' : World) : Prop := ∃ A' c', e = .returned (.slice A' x.length c') ∧ OwnS w' w.heap.size w'.heap.size T A' x ∧ Ext w w'

/-- what an append to a row of the call's own leaves is a slice -/
theorem ownsRow_slice {w : World} {base e size n : Nat} {v : Value} {xs : List Value} (h : w.ownsRow base e size v n xs) : ∃ A c, v = .slice A n c := by
  rcases h.2 with ⟨rfl, rfl⟩ | ⟨g, cap, cur, rfl, _⟩
  · exact ⟨_, _, rfl⟩
  · exact ⟨_, _, rfl⟩

def markI (k0 : Int) (n : Nat) : List Int := (List.range n).map fun (i : Nat) => k0 + (i : Int)
theorem markI_length (k0 : Int) (n : Nat) : (markI k0 n).length = n := by simp [markI]
theorem gi_markI (k0 : Int) (n k : Nat) (h : k < n) : gi (markI k0 n) k = k0 + (k : Int) := by simp [gi, markI, List.getD_eq_getElem?_getD, h]

theorem gi_set (l : List Int) (k j : Nat) (x : Int) (hk : k < l.length) : gi (l.set k x) j = if j = k then x else gi l j := by
  unfold gi
  simp only [List.getD_eq_getElem?_getD, List.getElem?_set]
  by_cases e : k = j
  · subst e; simp [hk]
  · rw [if_neg e, if_neg (fun h => e h.symm)]

theorem markI_step (k0 : Int) (l : List Int) (k : Nat) (h : k < l.length) : markI k0 (k + 1) ++ l.drop (k + 1) = (markI k0 k ++ l.drop k).set k (k0 + (k : Int)) := by
  have e : (markI k0 k).length = k := markI_length k0 k
  rw [List.set_append_right _ _ (by omega), e, Nat.sub_self, List.drop_eq_getElem_cons h, List.set_cons_zero]
  unfold markI
  rw [List.range_succ, List.map_append, List.append_assoc]
  rfl

/-- block g, row of numbers -/
def OwnIB (w : World) (g : Nat) (T : TypeId) (l : List Int) : Prop :=
  ∃ cs : Array Value, w.heap[g]? = some (.cells cs T (0, 0)) ∧ l.length ≤ cs.size ∧ ∀ k, k < l.length → cs[k]? = some (.int .i64 (gi l k))
theorem OwnIB.cell {w : World} {g : Nat} {T : TypeId} {l : List Int} (h : OwnIB w g T l) {k : Nat} (hk : k < l.length) : w.cell? ⟨g, k, none⟩ = some (.int .i64 (gi l k)) := by
  obtain ⟨cs, h1, _, h3⟩ := h
  simp [World.cell?, h1, h3 k hk]
theorem OwnIB.frozen {w : World} {g : Nat} {T : TypeId} {l : List Int} (h : OwnIB w g T l) (o : Nat) : w.frozen? ⟨g, o, none⟩ = false := by
  obtain ⟨cs, h1, _⟩ := h
  simp [World.frozen?, h1]
theorem OwnIB.set {w : World} {g : Nat} {T : TypeId} {l : List Int} (h : OwnIB w g T l) {k : Nat} (hk : k < l.length) (x : Int) : OwnIB (w.setCell ⟨g, k, none⟩ (.int .i64 x)) g T (l.set k x) := by
  obtain ⟨cs, h1, h2, h3⟩ := h
  refine ⟨cs.setIfInBounds k (.int .i64 x), by simp [World.setCell, Array.getElem?_modify, h1], by simpa using h2, fun j hj => ?_⟩
  rw [List.length_set] at hj
  rw [gi_set l k j _ hk, Array.getElem?_setIfInBounds]
  by_cases e : j = k
  · subst e; rw [if_pos rfl, if_pos (by omega), if_pos rfl]
  · rw [if_neg (by omega), if_neg e]; exact h3 j hj

end Go.Proofs.Ytanagdlikoinaaa
