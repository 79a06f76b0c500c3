/-
  A region that draws its order, proved once for all orders, where old blocks may turn in a way that is told (Flow.src's law with any such relation in the place of 'Ext'). No program in sight.
-/
import Derived.Test.YtkdhgngpapfkdaaDoorJ1
namespace Go.Proofs.YtkdhgngpapfkdaaDoor
open Go.RowKit

/-- what a step may do to the world -/
structure PreR (R : World → World → Prop) : Prop where
  refl : ∀ w, R w w
  trans : ∀ {a b c}, R a b → R b c → R a c
  drew : ∀ w, R w w.drew

def StableT (R : World → World → Prop) (p : Value → World → Prop) : Prop := ∀ v w w', p v w → R w w' → p v w'
theorem stableT_is {R : World → World → Prop} (x : Value) : StableT R (is x) := fun _ _ _ h _ => h

section
variable {P : Program} {ops : Array Oper} {Q : Exit → Act → World → Prop}
/-- What is owed at operation i. -/
def TStep (R : World → World → Prop) (P : Program) (ops : Array Oper) (Q : Exit → Act → World → Prop) (fr : (Nat → Value) → Act) (V : Nat → Value → World → Prop) (C : World → Prop) (W : World) (i : Nat) (o : Oper) : Prop :=
  ∀ (u : Nat → Value) (w : World), R W w → C w → (∀ e ∈ o.after.toList, Region.binds .any e = true → V e.on (u e.on) w) → ∀ K : Act → World → Prop, (∀ v w', V i v w' → R w w' → K (fr (upd u i v)) w') →
    if Region.wanted o (yielded ops (fr u).tmps) then o.wp P (fr u) w K Q else K ((fr u).put o.dst undef) w

def TSteps (R : World → World → Prop) (P : Program) (ops : Array Oper) (Q : Exit → Act → World → Prop) (fr : (Nat → Value) → Act) (V : Nat → Value → World → Prop) (C : World → Prop) (W : World) : Nat → List Oper → Prop
  | _, [] => True
  | i, o :: l => TStep R P ops Q fr V C W i o ∧ TSteps R P ops Q fr V C W (i + 1) l

variable {R : World → World → Prop}

theorem TSteps.get {fr : (Nat → Value) → Act} {V : Nat → Value → World → Prop} {C : World → Prop} {W : World} : ∀ (l : List Oper) (n : Nat), TSteps R P ops Q fr V C W n l → ∀ (i : Nat) (o : Oper), l[i]? = some o → TStep R P ops Q fr V C W (n + i) o
  | [], _, _, i, o, h => by simp at h
  | x :: l, n, hs, 0, o, h => by
    simp at h
    subst h
    exact hs.1
  | x :: l, n, hs, i + 1, o, h => by
    have := TSteps.get l (n + 1) hs.2 i o (by simpa using h)
    rw [show n + 1 + i = n + (i + 1) from by omega] at this
    exact this

theorem TSteps.nil {fr : (Nat → Value) → Act} {V : Nat → Value → World → Prop} {C : World → Prop} {W : World} {i : Nat} : TSteps R P ops Q fr V C W i [] := trivial

theorem TSteps.cons {fr : (Nat → Value) → Act} {V : Nat → Value → World → Prop} {C : World → Prop} {W : World} {i : Nat} {o : Oper} {l : List Oper} (h : TStep R P ops Q fr V C W i o) (t : TSteps R P ops Q fr V C W (i + 1) l) : TSteps R P ops Q fr V C W i (o :: l) := ⟨h, t⟩

theorem TStep.plain {fr : (Nat → Value) → Act} {V : Nat → Value → World → Prop} {C : World → Prop} {W : World} {i : Nat} {o : Oper} (hg : o.guard = none)
    (h : ∀ (u : Nat → Value) (w : World), R W w → C w → (∀ e ∈ o.after.toList, Region.binds .any e = true → V e.on (u e.on) w) → ∀ K : Act → World → Prop, (∀ v w', V i v w' → R w w' → K (fr (upd u i v)) w') → o.wp P (fr u) w K Q) : TStep R P ops Q fr V C W i o := by
  intro u w h1 h2 h3 K hK
  rw [if_pos (by simp [Region.wanted, hg])]
  exact h u w h1 h2 h3 K hK

theorem vOf_stableT {l : List (Value → World → Prop)} (h : ∀ p ∈ l, StableT R p) : ∀ i v w w', vOf l i v w → R w w' → vOf l i v w' := by
  intro i v w w' hv hx
  unfold vOf at *
  by_cases hi : i < l.length
  · rw [List.getD_eq_getElem?_getD, List.getElem?_eq_getElem hi] at *
    exact h _ (List.getElem_mem hi) v w w' hv hx
  · rw [List.getD_eq_getElem?_getD, List.getElem?_eq_none (by omega)] at *
    exact hv

theorem wp_region_flowT (hR : PreR R) {id : Nat} (hm : P.follows .mixedOrders = true) (hb : backB ops = true) (fr : (Nat → Value) → Act) (u0 : Nat → Value) (V : Nat → Value → World → Prop) (C : World → Prop) (W : World)
    (hC : ∀ w, R W w → C w) (hV : ∀ i v w w', V i v w → R w w' → V i v w')
    (hs : TSteps R P ops Q fr V C W 0 ops.toList)
    (fin : ∀ u w, R W w → C w → (∀ i, i < ops.size → V i (u i) w) → Q .normal (fr u) w) : (Code.region id ops true).wp P Q (fr u0) W := by
  refine wp_region_any hm ?_
  have key : ∀ (fuel : Nat) (listed : Array Bool) (u : Nat → Value) (w : World), listed.size = ops.size → fuel + listed.toList.count true = ops.size → (∀ i, listed.getD i false = true → V i (u i) w) → R W w →
      wpAny P .any ops Q fuel listed (fr u) w := by
    intro fuel
    induction fuel with
    | zero =>
      intro listed u w hz hc hv hx
      have hall : ∀ i, i < ops.size → listed.getD i false = true := by
        intro i hi
        have := all_of_count listed.toList (by simp at hc ⊢; omega) i (by simp; omega)
        simp at this
        simp [Array.getD, hz, hi, (Array.getElem?_eq_some_iff.1 this).2]
      refine ⟨?_, fin u w hx (hC w hx) (fun i hi => hv i (hall i hi))⟩
      rw [List.eq_nil_iff_forall_not_mem]
      intro i hi
      obtain ⟨h1, h2, _⟩ := ready_of hi
      have h3 := hall i h1
      have hl : i < listed.size := by omega
      simp [Array.getD, hl] at h2 h3
      rw [h2] at h3
      cases h3
    | succ fuel ih =>
      intro listed u w hz hc hv hx
      refine ⟨fun hr => fin u w hx (hC w hx) (fun i hi => hv i (all_listed hz hb hr i hi)), fun i hi => ?_⟩
      obtain ⟨h1, h2, h3⟩ := ready_of hi
      have hl : i < listed.size := by omega
      have h2' : listed[i]'hl = false := by simpa [Array.getD, hl] using h2
      have ho : ops[i]? = some (ops[i]'h1) := Array.getElem?_eq_getElem h1
      have hst := TSteps.get ops.toList 0 hs i (ops[i]'h1) (by rw [Array.getElem?_toList]; exact ho)
      rw [Nat.zero_add] at hst
      have hgo := hst u w hx (hC w hx) (fun e he hbd => hv _ (h3 _ ho e he hbd)) (wpAny P .any ops Q fuel (listed.setIfInBounds i true)) (fun v w' hvi hx' => by
        refine ih _ _ _ (by simp [hz]) ?_ ?_ (hR.trans hx hx')
        · rw [Array.toList_setIfInBounds, count_set_true _ _ (by simp [Array.getElem?_eq_getElem hl, h2'])]
          omega
        · intro j hj
          by_cases e : j = i
          · subst e; simp only [upd, if_true]; exact hvi
          · have : listed.getD j false = true := by
              simp only [Array.getD_eq_getD_getElem?, Array.getElem?_setIfInBounds] at hj ⊢
              rwa [if_neg (by omega)] at hj
            simp only [upd, if_neg e]
            exact hV _ _ _ _ (hv j this) hx')
      unfold wpOp
      rw [ho]
      simp only
      split
      · rename_i hw
        rw [if_pos hw] at hgo
        exact .inl hgo
      · rename_i hw
        rw [if_neg hw] at hgo
        exact hgo
  refine key ops.size (Array.replicate ops.size false) u0 _ (by simp) (by simp [List.count_replicate]) ?_ (hR.drew W)
  intro i h
  exfalso
  simp only [Array.getD_eq_getD_getElem?, Array.getElem?_replicate] at h
  split at h <;> simp at h

theorem wp_flowT (hR : PreR R) {id : Nat} (hm : P.follows .mixedOrders = true) (hb : backB ops = true) (fr : (Nat → Value) → Act) (u0 : Nat → Value) (l : List (Value → World → Prop)) (C : World → Prop) (W : World) (hl : ops.size = l.length)
    (hC : ∀ w, R W w → C w) (hs : TSteps R P ops Q fr (vOf l) C W 0 ops.toList) (hV : ∀ p ∈ l, StableT R p)
    (fin : ∀ u w, R W w → C w → AllV l 0 u w → Q .normal (fr u) w) : (Code.region id ops true).wp P Q (fr u0) W :=
  wp_region_flowT hR hm hb fr u0 (vOf l) C W hC (vOf_stableT hV) hs fun u w h1 h2 h3 => fin u w h1 h2 (allV_of l 0 u w fun i hi => by rw [Nat.zero_add]; exact h3 i (by omega))
end

end Go.Proofs.YtkdhgngpapfkdaaDoor
