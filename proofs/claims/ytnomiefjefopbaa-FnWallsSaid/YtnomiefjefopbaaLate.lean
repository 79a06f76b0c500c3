/-
  A region that draws its order, once for all orders, where an operation reads a slot that a later one writes: what has not come up yet holds what it held.
-/
import Derived.Test.YtnomiefjefopbaaFlow
namespace Go.Proofs.Ytnomiefjefopbaa
open Go.RowKit

section
variable {P : Program} {ops : Array Oper} {Q : Exit → Act → World → Prop}

/-- operation j waits for operation i -/
def waits (ops : Array Oper) (i j : Nat) : Bool := match ops[j]? with | some o => o.after.any (fun e => e.on == i && Region.binds .any e) | none => false

/-- What is owed at operation i. -/
def LStep (P : Program) (ops : Array Oper) (Q : Exit → Act → World → Prop) (fr : (Nat → Value) → Act) (u0 : Nat → Value) (V : Nat → Value → World → Prop) (C : World → Prop) (W : World) (i : Nat) (o : Oper) : Prop :=
  ∀ (u : Nat → Value) (w : World), Ext W w → C w → (∀ e ∈ o.after.toList, Region.binds .any e = true → V e.on (u e.on) w) → (∀ j, waits ops i j = true → u j = u0 j) → ∀ K : Act → World → Prop, (∀ v w', V i v w' → Ext w w' → K (fr (upd u i v)) w') →
    if Region.wanted o (yielded ops (fr u).tmps) then o.wp P (fr u) w K Q else K ((fr u).put o.dst undef) w

def LSteps (P : Program) (ops : Array Oper) (Q : Exit → Act → World → Prop) (fr : (Nat → Value) → Act) (u0 : Nat → Value) (V : Nat → Value → World → Prop) (C : World → Prop) (W : World) : Nat → List Oper → Prop
  | _, [] => True
  | i, o :: l => LStep P ops Q fr u0 V C W i o ∧ LSteps P ops Q fr u0 V C W (i + 1) l

theorem LSteps.get {fr : (Nat → Value) → Act} {u0 : Nat → Value} {V : Nat → Value → World → Prop} {C : World → Prop} {W : World} : ∀ (l : List Oper) (n : Nat), LSteps P ops Q fr u0 V C W n l → ∀ (i : Nat) (o : Oper), l[i]? = some o → LStep P ops Q fr u0 V C W (n + i) o
  | [], _, _, i, o, h => by simp at h
  | x :: l, n, hs, 0, o, h => by
    simp at h
    subst h
    exact hs.1
  | x :: l, n, hs, i + 1, o, h => by
    have := LSteps.get l (n + 1) hs.2 i o (by simpa using h)
    rw [show n + 1 + i = n + (i + 1) from by omega] at this
    exact this

theorem LSteps.nil {fr : (Nat → Value) → Act} {u0 : Nat → Value} {V : Nat → Value → World → Prop} {C : World → Prop} {W : World} {i : Nat} : LSteps P ops Q fr u0 V C W i [] := trivial
theorem LSteps.cons {fr : (Nat → Value) → Act} {u0 : Nat → Value} {V : Nat → Value → World → Prop} {C : World → Prop} {W : World} {i : Nat} {o : Oper} {l : List Oper} (h : LStep P ops Q fr u0 V C W i o) (t : LSteps P ops Q fr u0 V C W (i + 1) l) : LSteps P ops Q fr u0 V C W i (o :: l) := ⟨h, t⟩

theorem LStep.plain {fr : (Nat → Value) → Act} {u0 : Nat → Value} {V : Nat → Value → World → Prop} {C : World → Prop} {W : World} {i : Nat} {o : Oper} (hg : o.guard = none)
    (h : ∀ (u : Nat → Value) (w : World), Ext W w → C w → (∀ e ∈ o.after.toList, Region.binds .any e = true → V e.on (u e.on) w) → (∀ j, waits ops i j = true → u j = u0 j) → ∀ K : Act → World → Prop, (∀ v w', V i v w' → Ext w w' → K (fr (upd u i v)) w') → o.wp P (fr u) w K Q) : LStep P ops Q fr u0 V C W i o := by
  intro u w h1 h2 h3 h4 K hK
  rw [if_pos (by simp [Region.wanted, hg])]
  exact h u w h1 h2 h3 h4 K hK

theorem wp_region_late {id : Nat} (hm : P.follows .mixedOrders = true) (hb : backB ops = true) (fr : (Nat → Value) → Act) (u0 : Nat → Value) (V : Nat → Value → World → Prop) (C : World → Prop) (W : World)
    (hC : ∀ w, Ext W w → C w) (hV : ∀ i v w w', V i v w → Ext w w' → V i v w')
    (hs : LSteps P ops Q fr u0 V C W 0 ops.toList)
    (fin : ∀ u w, Ext W w → C w → (∀ i, i < ops.size → V i (u i) w) → Q .normal (fr u) w) : (Code.region id ops true).wp P Q (fr u0) W := by
  refine wp_region_any hm ?_
  have key : ∀ (fuel : Nat) (listed : Array Bool) (u : Nat → Value) (w : World), listed.size = ops.size → fuel + listed.toList.count true = ops.size → (∀ i, listed.getD i false = true → V i (u i) w) → (∀ i, listed.getD i false = false → u i = u0 i) → DClosed ops listed → Ext W w →
      wpAny P .any ops Q fuel listed (fr u) w := by
    intro fuel
    induction fuel with
    | zero =>
      intro listed u w hz hc hv hn hcl hx
      have hall : ∀ i, i < ops.size → listed.getD i false = true := by
        intro i hi
        have := all_of_count listed.toList (by simp at hc ⊢; omega) i (by simp; omega)
        simp at this
        simp [Array.getD, hz, hi, (Array.getElem?_eq_some_iff.1 this).2]
      refine ⟨?_, fin u w hx (hC w hx) (fun i hi => hv i (hall i hi))⟩
      rw [List.eq_nil_iff_forall_not_mem]
      intro i hi
      obtain ⟨h1, h2, _⟩ := ready_of hi
      have h3 := hall i h1
      have hl : i < listed.size := by omega
      simp [Array.getD, hl] at h2 h3
      rw [h2] at h3
      cases h3
    | succ fuel ih =>
      intro listed u w hz hc hv hn hcl hx
      refine ⟨fun hr => fin u w hx (hC w hx) (fun i hi => hv i (all_listed hz hb hr i hi)), fun i hi => ?_⟩
      obtain ⟨h1, h2, h3⟩ := ready_of hi
      have hl : i < listed.size := by omega
      have h2' : listed[i]'hl = false := by simpa [Array.getD, hl] using h2
      have ho : ops[i]? = some (ops[i]'h1) := Array.getElem?_eq_getElem h1
      have hst := LSteps.get ops.toList 0 hs i (ops[i]'h1) (by rw [Array.getElem?_toList]; exact ho)
      rw [Nat.zero_add] at hst
      have hwait : ∀ j, waits ops i j = true → u j = u0 j := by
        intro j hj
        refine hn j ?_
        cases hlj : listed.getD j false with
        | false => rfl
        | true =>
          exfalso
          unfold waits at hj
          cases hoj : ops[j]? with
          | none => rw [hoj] at hj; cases hj
          | some oj =>
            rw [hoj] at hj
            simp only [Array.any_eq_true'] at hj
            obtain ⟨e, he, hb2⟩ := hj
            rw [Bool.and_eq_true, beq_iff_eq] at hb2
            have := hcl j oj hlj hoj e (by simpa using he) hb2.2
            rw [hb2.1] at this
            simp [Array.getD, hl, h2'] at this
      have hgo := hst u w hx (hC w hx) (fun e he hbd => hv _ (h3 _ ho e he hbd)) hwait (wpAny P .any ops Q fuel (listed.setIfInBounds i true)) (fun v w' hvi hx' => by
        refine ih _ _ _ (by simp [hz]) ?_ ?_ ?_ ?_ (hx.trans hx')
        · rw [Array.toList_setIfInBounds, count_set_true _ _ (by simp [Array.getElem?_eq_getElem hl, h2'])]
          omega
        · intro j hj
          by_cases e : j = i
          · subst e; simp only [upd, if_true]; exact hvi
          · have : listed.getD j false = true := by
              simp only [Array.getD_eq_getD_getElem?, Array.getElem?_setIfInBounds] at hj ⊢
              rwa [if_neg (by omega)] at hj
            simp only [upd, if_neg e]
            exact hV _ _ _ _ (hv j this) hx'
        · intro j hj
          by_cases e : j = i
          · subst e
            exfalso
            simp [Array.getD_eq_getD_getElem?, hl] at hj
          · have : listed.getD j false = false := by
              simp only [Array.getD_eq_getD_getElem?, Array.getElem?_setIfInBounds] at hj ⊢
              rwa [if_neg (by omega)] at hj
            simp only [upd, if_neg e]
            exact hn j this
        · intro j o hj hoj e he hbd
          have hset : ∀ k, listed.getD k false = true → (listed.setIfInBounds i true).getD k false = true := by
            intro k hk
            simp only [Array.getD_eq_getD_getElem?, Array.getElem?_setIfInBounds] at hk ⊢
            by_cases e : i = k
            · rw [if_pos e, if_pos (by omega)]; rfl
            · rwa [if_neg e]
          refine hset _ ?_
          by_cases e' : j = i
          · subst e'
            exact h3 o hoj e he hbd
          · refine hcl j o ?_ hoj e he hbd
            simp only [Array.getD_eq_getD_getElem?, Array.getElem?_setIfInBounds] at hj ⊢
            rwa [if_neg (by omega)] at hj)
      unfold wpOp
      rw [ho]
      simp only
      split
      · rename_i hw
        rw [if_pos hw] at hgo
        exact .inl hgo
      · rename_i hw
        rw [if_neg hw] at hgo
        exact hgo
  have hno : ∀ i, ¬ (Array.replicate ops.size false).getD i false = true := by
    intro i h
    simp only [Array.getD_eq_getD_getElem?, Array.getElem?_replicate] at h
    split at h <;> simp at h
  refine key ops.size (Array.replicate ops.size false) u0 _ (by simp) (by simp [List.count_replicate]) (fun i h => absurd h (hno i)) (fun _ _ => rfl) (fun i o h => absurd h (hno i)) (Ext.drew (Ext.refl W))

theorem wp_late {id : Nat} (hm : P.follows .mixedOrders = true) (hb : backB ops = true) (fr : (Nat → Value) → Act) (u0 : Nat → Value) (l : List (Value → World → Prop)) (C : World → Prop) (W : World) (hl : ops.size = l.length)
    (hC : ∀ w, Ext W w → C w) (hs : LSteps P ops Q fr u0 (vOf l) C W 0 ops.toList) (hV : ∀ p ∈ l, Stable p)
    (fin : ∀ u w, Ext W w → C w → AllV l 0 u w → Q .normal (fr u) w) : (Code.region id ops true).wp P Q (fr u0) W :=
  wp_region_late hm hb fr u0 (vOf l) C W hC (vOf_stable hV) hs fun u w h1 h2 h3 => fin u w h1 h2 (allV_of l 0 u w fun i hi => by rw [Nat.zero_add]; exact h3 i (by omega))
end

end Go.Proofs.Ytnomiefjefopbaa
