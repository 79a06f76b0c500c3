/-
  A region that draws its order whose values are known in several ways, with one end for all of them. No program in sight.
-/
import Derived.Test.YtmccffmkfdcmmaaFlow
namespace Go.Proofs.Ytmccffmkfdcmmaa
open Go.RowKit

section
variable {P : Program} {ops : Array Oper} {Q : Exit → Act → World → Prop}
theorem wp_flow_m {id : Nat} (hm : P.follows .mixedOrders = true) (hb : backB ops = true) (fr : (Nat → Value) → Act) (u0 : Nat → Value) (C : World → Prop) (W : World) (G : (Nat → Value) → Prop)
    (hC : ∀ w, Ext W w → C w) (h : ∃ l : List (Value → World → Prop), ops.size = l.length ∧ FSteps P ops Q fr (vOf l) C W 0 ops.toList ∧ (∀ p ∈ l, Stable p) ∧ ∀ u w, AllV l 0 u w → G u)
    (fin : ∀ u w, Ext W w → C w → G u → Q .normal (fr u) w) : (Code.region id ops true).wp P Q (fr u0) W := by
  obtain ⟨l, hl, hs, hV, hG⟩ := h
  exact wp_flow hm hb fr u0 l C W hl hC hs hV (fun u w a b c => fin u w a b (hG u w c))

theorem wp_flow_tail_m {id : Nat} (m : Nat) (hm : P.follows .mixedOrders = true) (hb : backB ops = true) (hf : forcedB ops m = true) (hmn0 : decide (m < ops.size) = true) (fr : (Nat → Value) → Act) (u0 : Nat → Value) (C : World → Prop) (W : World) (G : (Nat → Value) → Prop)
    (hC : ∀ w, Ext W w → C w) (h : ∃ l : List (Value → World → Prop), m = l.length ∧ FSteps P ops Q fr (vOf l) C W 0 (ops.toList.take m) ∧ (∀ p ∈ l, Stable p) ∧ ∀ u w, AllV l 0 u w → G u)
    (fin : ∀ u w, Ext W w → C w → G u → wpList P ops Q (ops.toList.drop m) (fr u) w) : (Code.region id ops true).wp P Q (fr u0) W := by
  obtain ⟨l, hl, hs, hV, hG⟩ := h
  exact wp_flow_tail m hm hb hf hmn0 fr u0 l C W hl hC hs hV (fun u w a b c => fin u w a b (hG u w c))
end

end Go.Proofs.Ytmccffmkfdcmmaa
