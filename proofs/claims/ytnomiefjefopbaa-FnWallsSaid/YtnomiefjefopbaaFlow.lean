/-
  A region that draws its order, shown once for all orders: whatever has come up yields a value that meets its own predicate in every later world.
-/
import Derived.Test.YtnomiefjefopbaaBase
import Derived.Orders
import Derived.RegionTactic
import Derived.Tactics
namespace Go.Proofs.Ytnomiefjefopbaa
open Go.RowKit

def upd (u : Nat → Value) (i : Nat) (v : Value) : Nat → Value := fun j => if j = i then v else u j

/-- a predicate that says: just this value -/
def is (x : Value) (v : Value) (_ : World) : Prop := v = x

section
variable {P : Program} {ops : Array Oper} {Q : Exit → Act → World → Prop}

/-- What is owed at operation i. -/
def FStep (P : Program) (ops : Array Oper) (Q : Exit → Act → World → Prop) (fr : (Nat → Value) → Act) (V : Nat → Value → World → Prop) (C : World → Prop) (W : World) (i : Nat) (o : Oper) : Prop :=
  ∀ (u : Nat → Value) (w : World), Ext W w → C w → (∀ e ∈ o.after.toList, Region.binds .any e = true → V e.on (u e.on) w) → ∀ K : Act → World → Prop, (∀ v w', V i v w' → Ext w w' → K (fr (upd u i v)) w') →
    if Region.wanted o (yielded ops (fr u).tmps) then o.wp P (fr u) w K Q else K ((fr u).put o.dst undef) w

def FSteps (P : Program) (ops : Array Oper) (Q : Exit → Act → World → Prop) (fr : (Nat → Value) → Act) (V : Nat → Value → World → Prop) (C : World → Prop) (W : World) : Nat → List Oper → Prop
  | _, [] => True
  | i, o :: l => FStep P ops Q fr V C W i o ∧ FSteps P ops Q fr V C W (i + 1) l

theorem FSteps.get {fr : (Nat → Value) → Act} {V : Nat → Value → World → Prop} {C : World → Prop} {W : World} : ∀ (l : List Oper) (n : Nat), FSteps P ops Q fr V C W n l → ∀ (i : Nat) (o : Oper), l[i]? = some o → FStep P ops Q fr V C W (n + i) o
  | [], _, _, i, o, h => by simp at h
  | x :: l, n, hs, 0, o, h => by
    simp at h
    subst h
    exact hs.1
  | x :: l, n, hs, i + 1, o, h => by
    have := FSteps.get l (n + 1) hs.2 i o (by simpa using h)
    rw [show n + 1 + i = n + (i + 1) from by omega] at this
    exact this

theorem ready_of {md : Region.Mode} {listed : Array Bool} {i : Nat} (h : i ∈ Region.ready md ops listed) : i < ops.size ∧ listed.getD i true = false ∧ ∀ o, ops[i]? = some o → ∀ e ∈ o.after.toList, Region.binds md e = true → listed.getD e.on false = true := by
  unfold Region.ready at h
  simp only [List.mem_filter, List.mem_range, Bool.and_eq_true, Bool.not_eq_eq_eq_not, Bool.not_true] at h
  obtain ⟨h1, h2, h3⟩ := h
  refine ⟨h1, h2, fun o ho e he hb => ?_⟩
  rw [ho] at h3
  simp only [Option.map_some, Option.getD_some, Array.all_eq_true_iff_forall_mem] at h3
  have := h3 e (by simpa using he)
  simpa [hb] using this

theorem count_set_true (l : List Bool) (i : Nat) (h : l[i]? = some false) : (l.set i true).count true = l.count true + 1 := by
  obtain ⟨hi, hv⟩ := List.getElem?_eq_some_iff.1 h
  rw [List.count_set hi, hv]
  simp

theorem all_of_count (l : List Bool) (h : l.count true = l.length) (i : Nat) (hi : i < l.length) : l[i]? = some true := by
  rw [List.count_eq_length] at h
  rw [List.getElem?_eq_getElem hi]
  rw [← h _ (List.getElem_mem hi)]

theorem FSteps.nil {fr : (Nat → Value) → Act} {V : Nat → Value → World → Prop} {C : World → Prop} {W : World} {i : Nat} : FSteps P ops Q fr V C W i [] := trivial
theorem FSteps.cons {fr : (Nat → Value) → Act} {V : Nat → Value → World → Prop} {C : World → Prop} {W : World} {i : Nat} {o : Oper} {l : List Oper} (h : FStep P ops Q fr V C W i o) (t : FSteps P ops Q fr V C W (i + 1) l) : FSteps P ops Q fr V C W i (o :: l) := ⟨h, t⟩

theorem FStep.plain {fr : (Nat → Value) → Act} {V : Nat → Value → World → Prop} {C : World → Prop} {W : World} {i : Nat} {o : Oper} (hg : o.guard = none)
    (h : ∀ (u : Nat → Value) (w : World), Ext W w → C w → (∀ e ∈ o.after.toList, Region.binds .any e = true → V e.on (u e.on) w) → ∀ K : Act → World → Prop, (∀ v w', V i v w' → Ext w w' → K (fr (upd u i v)) w') → o.wp P (fr u) w K Q) : FStep P ops Q fr V C W i o := by
  intro u w h1 h2 h3 K hK
  rw [if_pos (by simp [Region.wanted, hg])]
  exact h u w h1 h2 h3 K hK

theorem FStep.on_ {fr : (Nat → Value) → Act} {V : Nat → Value → World → Prop} {C : World → Prop} {W : World} {i : Nat} {o : Oper} (j d : Nat) (b : Bool) (hg : o.guard = some (j, b)) (hj : (ops[j]?).bind (·.dst) = some d)
    (hy : ∀ (u : Nat → Value) (w : World), (∀ e ∈ o.after.toList, Region.binds .any e = true → V e.on (u e.on) w) → (fr u).tmps[d]? = some (.bool b))
    (h : ∀ (u : Nat → Value) (w : World), Ext W w → C w → (∀ e ∈ o.after.toList, Region.binds .any e = true → V e.on (u e.on) w) → ∀ K : Act → World → Prop, (∀ v w', V i v w' → Ext w w' → K (fr (upd u i v)) w') → o.wp P (fr u) w K Q) : FStep P ops Q fr V C W i o := by
  intro u w h1 h2 h3 K hK
  rw [if_pos (by simp [Region.wanted, hg, yielded, hj, hy u w h3])]
  exact h u w h1 h2 h3 K hK

theorem FStep.off_ {fr : (Nat → Value) → Act} {V : Nat → Value → World → Prop} {C : World → Prop} {W : World} {i : Nat} {o : Oper} (j d : Nat) (b : Bool) (hg : o.guard = some (j, b)) (hj : (ops[j]?).bind (·.dst) = some d)
    (hy : ∀ (u : Nat → Value) (w : World), (∀ e ∈ o.after.toList, Region.binds .any e = true → V e.on (u e.on) w) → (fr u).tmps[d]? = some (.bool !b) ∨ (fr u).tmps[d]? = some undef)
    (hp : ∀ u, (fr u).put o.dst undef = fr (upd u i undef)) (hv : ∀ w, V i undef w) : FStep P ops Q fr V C W i o := by
  intro u w h1 h2 h3 K hK
  rw [if_neg (by rcases hy u w h3 with h | h <;> cases b <;> simp [Region.wanted, hg, yielded, hj, h, undef]), hp]
  exact hK _ _ (hv w) (Ext.refl w)

/-- Every edge leads back. -/
def backB (ops : Array Oper) : Bool := (List.range ops.size).all fun i => match ops[i]? with | some o => o.after.all fun e => !Region.binds .any e || decide (e.on < i) | none => true

theorem all_listed {listed : Array Bool} (hz : listed.size = ops.size) (hb : backB ops = true) (hr : Region.ready .any ops listed = []) : ∀ i, i < ops.size → listed.getD i false = true := by
  intro i
  induction i using Nat.strongRecOn with
  | ind i ih =>
    intro hi
    have hnot : i ∉ Region.ready .any ops listed := by rw [hr]; simp
    unfold Region.ready at hnot
    simp only [List.mem_filter, List.mem_range, Bool.and_eq_true, not_and] at hnot
    have h1 := hnot hi
    have hl : i < listed.size := by omega
    cases hv : listed[i]'hl with
    | true => simp [Array.getD, hl, hv]
    | false =>
      exfalso
      refine h1 (by simp [Array.getD, hl, hv]) ?_
      have ho : ops[i]? = some (ops[i]'hi) := Array.getElem?_eq_getElem hi
      rw [ho]
      simp only [Option.map_some, Option.getD_some, Array.all_eq_true_iff_forall_mem]
      intro e he
      have hb1 := List.all_eq_true.1 hb i (List.mem_range.2 hi)
      rw [ho] at hb1
      simp only [Array.all_eq_true_iff_forall_mem, Bool.or_eq_true, Bool.not_eq_true', decide_eq_true_eq] at hb1
      rcases hb1 e he with hnb | hlt
      · simp [hnb]
      · rw [ih e.on hlt (by omega)]
        simp

/-- Every operation ahead of the tail is used by a later one up to the tail's first; in the tail each is used by the next. -/
def forcedB (ops : Array Oper) (m : Nat) : Bool :=
  (List.range (ops.size - 1)).all fun j => (List.range (max (j + 1) m + 1)).any fun i => decide (j < i) && (match ops[i]? with | some o => o.after.any (fun e => e.on == j && Region.binds .any e) | none => false)

/-- what has come up is closed under the edges -/
def DClosed (ops : Array Oper) (listed : Array Bool) : Prop := ∀ i o, listed.getD i false = true → ops[i]? = some o → ∀ e ∈ o.after.toList, Region.binds .any e = true → listed.getD e.on false = true

theorem forced {listed : Array Bool} {m i : Nat} (hf : forcedB ops m = true) (hc : DClosed ops listed) (hi : i ∈ Region.ready .any ops listed) (hm : m ≤ i) : ∀ j, j < i → listed.getD j false = true := by
  obtain ⟨h1, _, h3⟩ := ready_of hi
  have key : ∀ d j, j + d = i → 0 < d → listed.getD j false = true := by
    intro d
    induction d using Nat.strongRecOn with
    | ind d ih =>
      intro j hj hd
      have hb := List.all_eq_true.1 hf j (List.mem_range.2 (by omega))
      rw [List.any_eq_true] at hb
      obtain ⟨i', hi', hb⟩ := hb
      rw [List.mem_range] at hi'
      rw [Bool.and_eq_true, decide_eq_true_eq] at hb
      obtain ⟨hlt, hb⟩ := hb
      cases ho : ops[i']? with
      | none => rw [ho] at hb; cases hb
      | some o =>
        rw [ho] at hb
        simp only [Array.any_eq_true'] at hb
        obtain ⟨e, he, hb⟩ := hb
        rw [Bool.and_eq_true, beq_iff_eq] at hb
        obtain ⟨h4, h5⟩ := hb
        have hle : i' ≤ i := by omega
        by_cases heq : i' = i
        · subst heq
          have := h3 o ho e (by simpa using he) h5
          rwa [h4] at this
        · have hl := ih (i - i') (by omega) i' (by omega) (by omega)
          have := hc i' o hl ho e (by simpa using he) h5
          rwa [h4] at this
  intro j hj
  exact key (i - j) j (by omega) (by omega)

theorem wp_tail {m : Nat} (hb : backB ops = true) (hf : forcedB ops m = true) : ∀ (d i : Nat), i + d = ops.size → m ≤ i → ∀ (listed : Array Bool) (a : Act) (w : World), listed.size = ops.size →
    (∀ j, j < i → listed.getD j false = true) → (∀ j, i ≤ j → listed.getD j false = false) → wpList P ops Q (ops.toList.drop i) a w → wpAny P .any ops Q d listed a w
  | 0, i, hd, _, listed, a, w, hz, h1, _, h => by
    have hn : i = ops.size := by omega
    subst hn
    rw [List.drop_of_length_le (by simp)] at h
    refine ⟨?_, h⟩
    rw [List.eq_nil_iff_forall_not_mem]
    intro k hk
    obtain ⟨k1, k2, _⟩ := ready_of hk
    have k3 := h1 k k1
    have hl : k < listed.size := by omega
    simp [Array.getD, hl] at k2 k3
    rw [k2] at k3
    cases k3
  | d + 1, i, hd, hm, listed, a, w, hz, h1, h2, h => by
    have hi : i < ops.size := by omega
    have hil : i < listed.size := by omega
    have hcl : DClosed ops listed := by
      intro k o hk ho e he hbd
      refine h1 _ ?_
      have hk1 : k < i := by
        rcases Nat.lt_or_ge k i with hh | hh
        · exact hh
        · rw [h2 k hh] at hk; cases hk
      have hb1 := List.all_eq_true.1 hb k (List.mem_range.2 (by omega))
      rw [ho] at hb1
      simp only [Array.all_eq_true_iff_forall_mem, Bool.or_eq_true, Bool.not_eq_true', decide_eq_true_eq] at hb1
      rcases hb1 e (by simpa using he) with hnb | hlt
      · rw [hbd] at hnb; cases hnb
      · omega
    refine ⟨fun hr => ?_, fun k hk => ?_⟩
    · have := all_listed hz hb hr i hi
      rw [h2 i (Nat.le_refl _)] at this
      cases this
    · obtain ⟨k1, k2, _⟩ := ready_of hk
      have hkl : k < listed.size := by omega
      have hki : i ≤ k := by
        rcases Nat.lt_or_ge k i with hh | hh
        · exfalso
          have := h1 k hh
          simp [Array.getD, hkl] at k2 this
          rw [k2] at this
          cases this
        · exact hh
      have hke : k = i := by
        rcases Nat.lt_or_ge i k with hh | hh
        · exfalso
          have := forced hf hcl hk (by omega) i hh
          rw [h2 i (Nat.le_refl _)] at this
          cases this
        · omega
      subst hke
      have ho : ops[k]? = some (ops[k]'hi) := Array.getElem?_eq_getElem hi
      rw [List.drop_eq_getElem_cons (by simpa using hi)] at h
      simp only [Array.getElem_toList, wpList] at h
      have ih : ∀ a w, wpList P ops Q (ops.toList.drop (k + 1)) a w → wpAny P .any ops Q d (listed.setIfInBounds k true) a w := fun a w h => by
        refine wp_tail hb hf d (k + 1) (by omega) (by omega) _ a w (by simp [hz]) (fun j hj => ?_) (fun j hj => ?_) h
        · simp only [Array.getD_eq_getD_getElem?, Array.getElem?_setIfInBounds]
          by_cases e : k = j
          · rw [if_pos e, if_pos (by omega)]; rfl
          · rw [if_neg e]
            have := h1 j (by omega)
            simpa only [Array.getD_eq_getD_getElem?] using this
        · simp only [Array.getD_eq_getD_getElem?, Array.getElem?_setIfInBounds]
          rw [if_neg (by omega)]
          have := h2 j (by omega)
          simpa only [Array.getD_eq_getD_getElem?] using this
      refine wpOp_mono ih ?_
      unfold wpOp
      rw [ho]
      exact h

/-- the predicates, as a list -/
def vOf (l : List (Value → World → Prop)) (i : Nat) (v : Value) (w : World) : Prop := (l.getD i fun _ _ => False) v w
def Stable (p : Value → World → Prop) : Prop := ∀ v w w', p v w → Ext w w' → p v w'
theorem stable_is (x : Value) : Stable (is x) := fun _ _ _ h _ => h
theorem vOf_stable {l : List (Value → World → Prop)} (h : ∀ p ∈ l, Stable p) : ∀ i v w w', vOf l i v w → Ext w w' → vOf l i v w' := by
  intro i v w w' hv hx
  unfold vOf at *
  by_cases hi : i < l.length
  · rw [List.getD_eq_getElem?_getD, List.getElem?_eq_getElem hi] at *
    exact h _ (List.getElem_mem hi) v w w' hv hx
  · rw [List.getD_eq_getElem?_getD, List.getElem?_eq_none (by omega)] at *
    exact hv

theorem wp_region_flow {id : Nat} (hm : P.follows .mixedOrders = true) (hb : backB ops = true) (fr : (Nat → Value) → Act) (u0 : Nat → Value) (V : Nat → Value → World → Prop) (C : World → Prop) (W : World)
    (hC : ∀ w, Ext W w → C w) (hV : ∀ i v w w', V i v w → Ext w w' → V i v w')
    (hs : FSteps P ops Q fr V C W 0 ops.toList)
    (fin : ∀ u w, Ext W w → C w → (∀ i, i < ops.size → V i (u i) w) → Q .normal (fr u) w) : (Code.region id ops true).wp P Q (fr u0) W := by
  refine wp_region_any hm ?_
  have key : ∀ (fuel : Nat) (listed : Array Bool) (u : Nat → Value) (w : World), listed.size = ops.size → fuel + listed.toList.count true = ops.size → (∀ i, listed.getD i false = true → V i (u i) w) → Ext W w →
      wpAny P .any ops Q fuel listed (fr u) w := by
    intro fuel
    induction fuel with
    | zero =>
      intro listed u w hz hc hv hx
      have hall : ∀ i, i < ops.size → listed.getD i false = true := by
        intro i hi
        have := all_of_count listed.toList (by simp at hc ⊢; omega) i (by simp; omega)
        simp at this
        simp [Array.getD, hz, hi, (Array.getElem?_eq_some_iff.1 this).2]
      refine ⟨?_, fin u w hx (hC w hx) (fun i hi => hv i (hall i hi))⟩
      rw [List.eq_nil_iff_forall_not_mem]
      intro i hi
      obtain ⟨h1, h2, _⟩ := ready_of hi
      have h3 := hall i h1
      have hl : i < listed.size := by omega
      simp [Array.getD, hl] at h2 h3
      rw [h2] at h3
      cases h3
    | succ fuel ih =>
      intro listed u w hz hc hv hx
      refine ⟨fun hr => fin u w hx (hC w hx) (fun i hi => hv i (all_listed hz hb hr i hi)), fun i hi => ?_⟩
      obtain ⟨h1, h2, h3⟩ := ready_of hi
      have hl : i < listed.size := by omega
      have h2' : listed[i]'hl = false := by simpa [Array.getD, hl] using h2
      have ho : ops[i]? = some (ops[i]'h1) := Array.getElem?_eq_getElem h1
      have hst := FSteps.get ops.toList 0 hs i (ops[i]'h1) (by rw [Array.getElem?_toList]; exact ho)
      rw [Nat.zero_add] at hst
      have hgo := hst u w hx (hC w hx) (fun e he hbd => hv _ (h3 _ ho e he hbd)) (wpAny P .any ops Q fuel (listed.setIfInBounds i true)) (fun v w' hvi hx' => by
        refine ih _ _ _ (by simp [hz]) ?_ ?_ (hx.trans hx')
        · rw [Array.toList_setIfInBounds, count_set_true _ _ (by simp [Array.getElem?_eq_getElem hl, h2'])]
          omega
        · intro j hj
          by_cases e : j = i
          · subst e; simp only [upd, if_true]; exact hvi
          · have : listed.getD j false = true := by
              simp only [Array.getD_eq_getD_getElem?, Array.getElem?_setIfInBounds] at hj ⊢
              rwa [if_neg (by omega)] at hj
            simp only [upd, if_neg e]
            exact hV _ _ _ _ (hv j this) hx')
      unfold wpOp
      rw [ho]
      simp only
      split
      · rename_i hw
        rw [if_pos hw] at hgo
        exact .inl hgo
      · rename_i hw
        rw [if_neg hw] at hgo
        exact hgo
  refine key ops.size (Array.replicate ops.size false) u0 _ (by simp) (by simp [List.count_replicate]) ?_ (Ext.drew (Ext.refl W))
  intro i h
  exfalso
  simp only [Array.getD_eq_getD_getElem?, Array.getElem?_replicate] at h
  split at h <;> simp at h
/-- each slot meets its predicate -/
def AllV : List (Value → World → Prop) → Nat → (Nat → Value) → World → Prop
  | [], _, _, _ => True
  | p :: l, i, u, w => p (u i) w ∧ AllV l (i + 1) u w

theorem allV_of : ∀ (l : List (Value → World → Prop)) (n : Nat) (u : Nat → Value) (w : World), (∀ i, i < l.length → vOf l i (u (n + i)) w) → AllV l n u w
  | [], _, _, _, _ => trivial
  | p :: l, n, u, w, h => by
    refine ⟨h 0 (by simp), allV_of l (n + 1) u w fun i hi => ?_⟩
    have := h (i + 1) (by simpa using hi)
    rw [show n + (i + 1) = n + 1 + i from by omega] at this
    exact this

theorem wp_flow {id : Nat} (hm : P.follows .mixedOrders = true) (hb : backB ops = true) (fr : (Nat → Value) → Act) (u0 : Nat → Value) (l : List (Value → World → Prop)) (C : World → Prop) (W : World) (hl : ops.size = l.length)
    (hC : ∀ w, Ext W w → C w) (hs : FSteps P ops Q fr (vOf l) C W 0 ops.toList) (hV : ∀ p ∈ l, Stable p)
    (fin : ∀ u w, Ext W w → C w → AllV l 0 u w → Q .normal (fr u) w) : (Code.region id ops true).wp P Q (fr u0) W :=
  wp_region_flow hm hb fr u0 (vOf l) C W hC (vOf_stable hV) hs fun u w h1 h2 h3 => fin u w h1 h2 (allV_of l 0 u w fun i hi => by rw [Nat.zero_add]; exact h3 i (by omega))
theorem count_first (l : List Bool) (m : Nat) (hm : m ≤ l.length) (h1 : ∀ j, j < m → l[j]? = some true) (h2 : ∀ j, m ≤ j → j < l.length → l[j]? = some false) : l.count true = m := by
  have e : l = l.take m ++ l.drop m := (List.take_append_drop m l).symm
  rw [e, List.count_append]
  have a : (l.take m).count true = (l.take m).length := by
    rw [List.count_eq_length]
    intro b hb
    obtain ⟨j, hj, rfl⟩ := List.getElem_of_mem hb
    rw [List.length_take] at hj
    have := h1 j (by omega)
    rw [List.getElem?_eq_getElem (by omega)] at this
    rw [List.getElem_take]
    injection this with this
    exact this.symm
  have b : (l.drop m).count true = 0 := by
    rw [List.count_eq_zero]
    intro hb
    obtain ⟨j, hj, he⟩ := List.getElem_of_mem hb
    rw [List.length_drop] at hj
    have := h2 (m + j) (by omega) (by omega)
    rw [List.getElem?_eq_getElem (by omega)] at this
    rw [List.getElem_drop] at he
    rw [he] at this
    cases this
  rw [a, b, List.length_take]
  omega

theorem wp_flow_tail {id : Nat} (m : Nat) (hm : P.follows .mixedOrders = true) (hb : backB ops = true) (hf : forcedB ops m = true) (hmn0 : decide (m < ops.size) = true) (fr : (Nat → Value) → Act) (u0 : Nat → Value) (l : List (Value → World → Prop)) (C : World → Prop) (W : World) (hl : m = l.length)
    (hC : ∀ w, Ext W w → C w) (hs : FSteps P ops Q fr (vOf l) C W 0 (ops.toList.take m)) (hV : ∀ p ∈ l, Stable p)
    (fin : ∀ u w, Ext W w → C w → AllV l 0 u w → wpList P ops Q (ops.toList.drop m) (fr u) w) : (Code.region id ops true).wp P Q (fr u0) W := by
  have hmn : m < ops.size := of_decide_eq_true hmn0
  refine wp_region_any hm ?_
  have key : ∀ (fuel : Nat) (listed : Array Bool) (u : Nat → Value) (w : World), listed.size = ops.size → fuel + listed.toList.count true = ops.size → (∀ i, listed.getD i false = true → i < m ∧ vOf l i (u i) w) → DClosed ops listed → Ext W w →
      wpAny P .any ops Q fuel listed (fr u) w := by
    intro fuel
    induction fuel with
    | zero =>
      intro listed u w hz hc hv _ _
      exfalso
      have := all_of_count listed.toList (by simp at hc ⊢; omega) m (by simp; omega)
      simp at this
      have h2 := (hv m (by simp [Array.getD, hz, hmn, (Array.getElem?_eq_some_iff.1 this).2])).1
      omega
    | succ fuel ih =>
      intro listed u w hz hc hv hcl hx
      by_cases hall : ∀ j, j < m → listed.getD j false = true
      · have hrest : ∀ j, m ≤ j → listed.getD j false = false := by
          intro j hj
          cases h : listed.getD j false with
          | false => rfl
          | true => have := (hv j h).1; omega
        have hcount : listed.toList.count true = m := by
          refine count_first _ m (by simp; omega) (fun j hj => ?_) (fun j hj hj2 => ?_)
          · have hjl : j < listed.size := by omega
            have := hall j hj
            simp [Array.getD, hjl] at this
            simp [hjl, this]
          · have hjl : j < listed.size := by simpa using hj2
            have := hrest j hj
            simp [Array.getD, hjl] at this
            simp [hjl, this]
        exact wp_tail hb hf (fuel + 1) m (by omega) (Nat.le_refl _) listed _ w hz hall hrest (fin u w hx (hC w hx) (allV_of l 0 u w fun i hi => by rw [Nat.zero_add]; exact (hv i (hall i (by omega))).2))
      · refine ⟨fun hr => absurd (fun j hj => all_listed hz hb hr j (by omega)) hall, fun i hi => ?_⟩
        obtain ⟨h1, h2, h3⟩ := ready_of hi
        have him : i < m := by
          rcases Nat.lt_or_ge i m with hh | hh
          · exact hh
          · exact absurd (fun j hj => forced hf hcl hi hh j (by omega)) hall
        have hil : i < listed.size := by omega
        have h2' : listed[i]'hil = false := by simpa [Array.getD, hil] using h2
        have ho : ops[i]? = some (ops[i]'h1) := Array.getElem?_eq_getElem h1
        have hst := FSteps.get (ops.toList.take m) 0 hs i (ops[i]'h1) (by rw [List.getElem?_take_of_lt him, Array.getElem?_toList]; exact ho)
        rw [Nat.zero_add] at hst
        have hgo := hst u w hx (hC w hx) (fun e he hbd => (hv _ (h3 _ ho e he hbd)).2) (wpAny P .any ops Q fuel (listed.setIfInBounds i true)) (fun v w' hvi hx' => by
          refine ih _ _ _ (by simp [hz]) ?_ ?_ ?_ (hx.trans hx')
          · rw [Array.toList_setIfInBounds, count_set_true _ _ (by simp [Array.getElem?_eq_getElem hil, h2'])]
            omega
          · intro j hj
            by_cases e : j = i
            · subst e; simp only [upd, if_true]; exact ⟨him, hvi⟩
            · have : listed.getD j false = true := by
                simp only [Array.getD_eq_getD_getElem?, Array.getElem?_setIfInBounds] at hj ⊢
                rwa [if_neg (by omega)] at hj
              simp only [upd, if_neg e]
              exact ⟨(hv j this).1, vOf_stable hV _ _ _ _ (hv j this).2 hx'⟩
          · intro j o hj hoj e he hbd
            have hset : ∀ k, listed.getD k false = true → (listed.setIfInBounds i true).getD k false = true := by
              intro k hk
              simp only [Array.getD_eq_getD_getElem?, Array.getElem?_setIfInBounds] at hk ⊢
              by_cases e : i = k
              · rw [if_pos e, if_pos (by omega)]; rfl
              · rwa [if_neg e]
            refine hset _ ?_
            by_cases e' : j = i
            · subst e'
              exact h3 o hoj e he hbd
            · refine hcl j o ?_ hoj e he hbd
              simp only [Array.getD_eq_getD_getElem?, Array.getElem?_setIfInBounds] at hj ⊢
              rwa [if_neg (by omega)] at hj)
        unfold wpOp
        rw [ho]
        simp only
        split
        · rename_i hw
          rw [if_pos hw] at hgo
          exact .inl hgo
        · rename_i hw
          rw [if_neg hw] at hgo
          exact hgo
  have hno : ∀ i, ¬ (Array.replicate ops.size false).getD i false = true := by
    intro i h
    simp only [Array.getD_eq_getD_getElem?, Array.getElem?_replicate] at h
    split at h <;> simp at h
  exact key ops.size (Array.replicate ops.size false) u0 _ (by simp) (by simp [List.count_replicate]) (fun i h => absurd h (hno i)) (fun i o h => absurd h (hno i)) (Ext.drew (Ext.refl W))
end

end Go.Proofs.Ytnomiefjefopbaa
