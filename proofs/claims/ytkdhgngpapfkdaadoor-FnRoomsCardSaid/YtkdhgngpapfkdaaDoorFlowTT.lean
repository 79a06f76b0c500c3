/-
  FlowT's law with a tail: the operations from m on are forced last. No program in sight.
-/
import Derived.Test.YtkdhgngpapfkdaaDoorFlowT
namespace Go.Proofs.YtkdhgngpapfkdaaDoor
open Go.RowKit

section
variable {P : Program} {ops : Array Oper} {Q : Exit → Act → World → Prop} {R : World → World → Prop}
theorem wp_flow_tailT (hR : PreR R) {id : Nat} (m : Nat) (hm : P.follows .mixedOrders = true) (hb : backB ops = true) (hf : forcedB ops m = true) (hmn0 : decide (m < ops.size) = true) (fr : (Nat → Value) → Act) (u0 : Nat → Value) (l : List (Value → World → Prop)) (C : World → Prop) (W : World) (hl : m = l.length)
    (hC : ∀ w, R W w → C w) (hs : TSteps R P ops Q fr (vOf l) C W 0 (ops.toList.take m)) (hV : ∀ p ∈ l, StableT R p)
    (fin : ∀ u w, R W w → C w → AllV l 0 u w → wpList P ops Q (ops.toList.drop m) (fr u) w) : (Code.region id ops true).wp P Q (fr u0) W := by
  have hmn : m < ops.size := of_decide_eq_true hmn0
  refine wp_region_any hm ?_
  have key : ∀ (fuel : Nat) (listed : Array Bool) (u : Nat → Value) (w : World), listed.size = ops.size → fuel + listed.toList.count true = ops.size → (∀ i, listed.getD i false = true → i < m ∧ vOf l i (u i) w) → DClosed ops listed → R W w →
      wpAny P .any ops Q fuel listed (fr u) w := by
    intro fuel
    induction fuel with
    | zero =>
      intro listed u w hz hc hv _ _
      exfalso
      have := all_of_count listed.toList (by simp at hc ⊢; omega) m (by simp; omega)
      simp at this
      have h2 := (hv m (by simp [Array.getD, hz, hmn, (Array.getElem?_eq_some_iff.1 this).2])).1
      omega
    | succ fuel ih =>
      intro listed u w hz hc hv hcl hx
      by_cases hall : ∀ j, j < m → listed.getD j false = true
      · have hrest : ∀ j, m ≤ j → listed.getD j false = false := by
          intro j hj
          cases h : listed.getD j false with
          | false => rfl
          | true => have := (hv j h).1; omega
        have hcount : listed.toList.count true = m := by
          refine count_first _ m (by simp; omega) (fun j hj => ?_) (fun j hj hj2 => ?_)
          · have hjl : j < listed.size := by omega
            have := hall j hj
            simp [Array.getD, hjl] at this
            simp [hjl, this]
          · have hjl : j < listed.size := by simpa using hj2
            have := hrest j hj
            simp [Array.getD, hjl] at this
            simp [hjl, this]
        exact wp_tail hb hf (fuel + 1) m (by omega) (Nat.le_refl _) listed _ w hz hall hrest (fin u w hx (hC w hx) (allV_of l 0 u w fun i hi => by rw [Nat.zero_add]; exact (hv i (hall i (by omega))).2))
      · refine ⟨fun hr => absurd (fun j hj => all_listed hz hb hr j (by omega)) hall, fun i hi => ?_⟩
        obtain ⟨h1, h2, h3⟩ := ready_of hi
        have him : i < m := by
          rcases Nat.lt_or_ge i m with hh | hh
          · exact hh
          · exact absurd (fun j hj => forced hf hcl hi hh j (by omega)) hall
        have hil : i < listed.size := by omega
        have h2' : listed[i]'hil = false := by simpa [Array.getD, hil] using h2
        have ho : ops[i]? = some (ops[i]'h1) := Array.getElem?_eq_getElem h1
        have hst := TSteps.get (ops.toList.take m) 0 hs i (ops[i]'h1) (by rw [List.getElem?_take_of_lt him, Array.getElem?_toList]; exact ho)
        rw [Nat.zero_add] at hst
        have hgo := hst u w hx (hC w hx) (fun e he hbd => (hv _ (h3 _ ho e he hbd)).2) (wpAny P .any ops Q fuel (listed.setIfInBounds i true)) (fun v w' hvi hx' => by
          refine ih _ _ _ (by simp [hz]) ?_ ?_ ?_ (hR.trans hx hx')
          · rw [Array.toList_setIfInBounds, count_set_true _ _ (by simp [Array.getElem?_eq_getElem hil, h2'])]
            omega
          · intro j hj
            by_cases e : j = i
            · subst e; simp only [upd, if_true]; exact ⟨him, hvi⟩
            · have : listed.getD j false = true := by
                simp only [Array.getD_eq_getD_getElem?, Array.getElem?_setIfInBounds] at hj ⊢
                rwa [if_neg (by omega)] at hj
              simp only [upd, if_neg e]
              exact ⟨(hv j this).1, vOf_stableT hV _ _ _ _ (hv j this).2 hx'⟩
          · intro j o hj hoj e he hbd
            have hset : ∀ k, listed.getD k false = true → (listed.setIfInBounds i true).getD k false = true := by
              intro k hk
              simp only [Array.getD_eq_getD_getElem?, Array.getElem?_setIfInBounds] at hk ⊢
              by_cases e : i = k
              · rw [if_pos e, if_pos (by omega)]; rfl
              · rwa [if_neg e]
            refine hset _ ?_
            by_cases e' : j = i
            · subst e'
              exact h3 o hoj e he hbd
            · refine hcl j o ?_ hoj e he hbd
              simp only [Array.getD_eq_getD_getElem?, Array.getElem?_setIfInBounds] at hj ⊢
              rwa [if_neg (by omega)] at hj)
        unfold wpOp
        rw [ho]
        simp only
        split
        · rename_i hw
          rw [if_pos hw] at hgo
          exact .inl hgo
        · rename_i hw
          rw [if_neg hw] at hgo
          exact hgo
  have hno : ∀ i, ¬ (Array.replicate ops.size false).getD i false = true := by
    intro i h
    simp only [Array.getD_eq_getD_getElem?, Array.getElem?_replicate] at h
    split at h <;> simp at h
  exact key ops.size (Array.replicate ops.size false) u0 _ (by simp) (by simp [List.count_replicate]) (fun i h => absurd h (hno i)) (fun i o h => absurd h (hno i)) (hR.drew W)
end

end Go.Proofs.YtkdhgngpapfkdaaDoor
