/-
  A region that draws its order, one operation m of which may turn new blocks (an append to a row that the region itself has made): what only m reads need not last beyond m. No program in sight.
-/
import Derived.Test.YtanagdlikoinaaaJ1
namespace Go.Proofs.Ytanagdlikoinaaa
open Go.RowKit

/-- operation j's value is read by m alone -/
def deadB (ops : Array Oper) (m j : Nat) : Bool := (match ops[m]? with | some o => o.after.any fun e => Region.binds .any e && (e.on == j) | none => false) && (List.range ops.size).all fun i => match ops[i]? with | some o => i == m || o.after.all fun e => !Region.binds .any e || !(e.on == j) | none => true

section
variable {P : Program} {ops : Array Oper} {Q : Exit → Act → World → Prop}
/-- What is owed at operation i. -/
def XStep (P : Program) (ops : Array Oper) (Q : Exit → Act → World → Prop) (m : Nat) (fr : (Nat → Value) → Act) (V : Nat → Value → World → Prop) (C : World → Prop) (W : World) (i : Nat) (o : Oper) : Prop :=
  ∀ (u : Nat → Value) (w : World), Below W.heap.size W w → C w → (∀ e ∈ o.after.toList, Region.binds .any e = true → V e.on (u e.on) w) → ∀ K : Act → World → Prop, (∀ v w', V i v w' → (if (i == m) = true then Below W.heap.size w w' else Ext w w') → K (fr (upd u i v)) w') →
    if Region.wanted o (yielded ops (fr u).tmps) then o.wp P (fr u) w K Q else K ((fr u).put o.dst undef) w

def XSteps (P : Program) (ops : Array Oper) (Q : Exit → Act → World → Prop) (m : Nat) (fr : (Nat → Value) → Act) (V : Nat → Value → World → Prop) (C : World → Prop) (W : World) : Nat → List Oper → Prop
  | _, [] => True
  | i, o :: l => XStep P ops Q m fr V C W i o ∧ XSteps P ops Q m fr V C W (i + 1) l

variable {m : Nat} {fr : (Nat → Value) → Act} {V : Nat → Value → World → Prop} {C : World → Prop} {W : World}
theorem XSteps.get : ∀ (l : List Oper) (n : Nat), XSteps P ops Q m fr V C W n l → ∀ (i : Nat) (o : Oper), l[i]? = some o → XStep P ops Q m fr V C W (n + i) o
  | [], _, _, i, o, h => by simp at h
  | x :: l, n, hs, 0, o, h => by
    simp at h
    subst h
    exact hs.1
  | x :: l, n, hs, i + 1, o, h => by
    have := XSteps.get l (n + 1) hs.2 i o (by simpa using h)
    rw [show n + 1 + i = n + (i + 1) from by omega] at this
    exact this

theorem XSteps.nil {i : Nat} : XSteps P ops Q m fr V C W i [] := trivial
theorem XSteps.ext {i : Nat} {o : Oper} {l : List Oper} (hne : (i == m) = false) (hg : o.guard = none)
    (h : ∀ (u : Nat → Value) (w : World), Below W.heap.size W w → C w → (∀ e ∈ o.after.toList, Region.binds .any e = true → V e.on (u e.on) w) → ∀ K : Act → World → Prop, (∀ v w', V i v w' → Ext w w' → K (fr (upd u i v)) w') → o.wp P (fr u) w K Q)
    (t : XSteps P ops Q m fr V C W (i + 1) l) : XSteps P ops Q m fr V C W i (o :: l) := by
  refine ⟨fun u w h1 h2 h3 K hK => ?_, t⟩
  rw [if_pos (by simp [Region.wanted, hg])]
  exact h u w h1 h2 h3 K (fun v w' a b => hK v w' a (by rw [if_neg (by rw [hne]; decide)]; exact b))
theorem XSteps.at_ {i : Nat} {o : Oper} {l : List Oper} (heq : (i == m) = true) (hg : o.guard = none)
    (h : ∀ (u : Nat → Value) (w : World), Below W.heap.size W w → C w → (∀ e ∈ o.after.toList, Region.binds .any e = true → V e.on (u e.on) w) → ∀ K : Act → World → Prop, (∀ v w', V i v w' → Below W.heap.size w w' → K (fr (upd u i v)) w') → o.wp P (fr u) w K Q)
    (t : XSteps P ops Q m fr V C W (i + 1) l) : XSteps P ops Q m fr V C W i (o :: l) := by
  refine ⟨fun u w h1 h2 h3 K hK => ?_, t⟩
  rw [if_pos (by simp [Region.wanted, hg])]
  exact h u w h1 h2 h3 K (fun v w' a b => hK v w' a (by rw [if_pos heq]; exact b))

theorem dead_read {j i : Nat} {o : Oper} (hd : deadB ops m j = true) (ho : ops[i]? = some o) (hi : i < ops.size) {e : Edge} (he : e ∈ o.after.toList) (hb : Region.binds .any e = true) (hj : e.on = j) : i = m := by
  unfold deadB at hd
  rw [Bool.and_eq_true] at hd
  have h := List.all_eq_true.1 hd.2 i (List.mem_range.2 hi)
  rw [ho] at h
  simp only [Bool.or_eq_true, beq_iff_eq, Array.all_eq_true_iff_forall_mem, Bool.not_eq_true'] at h
  rcases h with h | h
  · exact h
  · rcases h e (by simpa using he) with h2 | h2
    · rw [hb] at h2; cases h2
    · subst hj; simp at h2

theorem wp_flowX {id : Nat} (m : Nat) (hm : P.follows .mixedOrders = true) (hb : backB ops = true) (fr : (Nat → Value) → Act) (u0 : Nat → Value) (V : Nat → Value → World → Prop) (C : World → Prop) (W : World)
    (hC : ∀ w, Below W.heap.size W w → C w) (hV : ∀ i v w w', V i v w → Ext w w' → V i v w') (hV2 : ∀ i v w w', i ≠ m → deadB ops m i = false → V i v w → Below W.heap.size w w' → V i v w')
    (hs : XSteps P ops Q m fr V C W 0 ops.toList)
    (fin : ∀ u w, Below W.heap.size W w → C w → (∀ i, i < ops.size → deadB ops m i = true ∨ V i (u i) w) → Q .normal (fr u) w) : (Code.region id ops true).wp P Q (fr u0) W := by
  refine wp_region_any hm ?_
  have key : ∀ (fuel : Nat) (listed : Array Bool) (u : Nat → Value) (w : World), listed.size = ops.size → fuel + listed.toList.count true = ops.size → (∀ i, listed.getD i false = true → (deadB ops m i = true ∧ listed.getD m false = true) ∨ V i (u i) w) → Below W.heap.size W w →
      wpAny P .any ops Q fuel listed (fr u) w := by
    intro fuel
    induction fuel with
    | zero =>
      intro listed u w hz hc hv hx
      have hall : ∀ i, i < ops.size → listed.getD i false = true := by
        intro i hi
        have := all_of_count listed.toList (by simp at hc ⊢; omega) i (by simp; omega)
        simp at this
        simp [Array.getD, hz, hi, (Array.getElem?_eq_some_iff.1 this).2]
      refine ⟨?_, fin u w hx (hC w hx) (fun i hi => (hv i (hall i hi)).imp (fun h => h.1) (fun h => h))⟩
      rw [List.eq_nil_iff_forall_not_mem]
      intro i hi
      obtain ⟨h1, h2, _⟩ := ready_of hi
      have h3 := hall i h1
      have hl : i < listed.size := by omega
      simp [Array.getD, hl] at h2 h3
      rw [h2] at h3
      cases h3
    | succ fuel ih =>
      intro listed u w hz hc hv hx
      refine ⟨fun hr => fin u w hx (hC w hx) (fun i hi => (hv i (all_listed hz hb hr i hi)).imp (fun h => h.1) (fun h => h)), fun i hi => ?_⟩
      obtain ⟨h1, h2, h3⟩ := ready_of hi
      have hl : i < listed.size := by omega
      have h2' : listed[i]'hl = false := by simpa [Array.getD, hl] using h2
      have h2d : listed.getD i false = false := by simpa [Array.getD, hl] using h2'
      have ho : ops[i]? = some (ops[i]'h1) := Array.getElem?_eq_getElem h1
      have hst := XSteps.get ops.toList 0 hs i (ops[i]'h1) (by rw [Array.getElem?_toList]; exact ho)
      rw [Nat.zero_add] at hst
      have hrd : ∀ e ∈ (ops[i]'h1).after.toList, Region.binds .any e = true → V e.on (u e.on) w := fun e he hbd => by
        rcases hv _ (h3 _ ho e he hbd) with ⟨hd, hlm⟩ | h
        · have := dead_read hd ho h1 he hbd rfl
          subst this
          rw [h2d] at hlm
          cases hlm
        · exact h
      have hgo := hst u w hx (hC w hx) hrd (wpAny P .any ops Q fuel (listed.setIfInBounds i true)) (fun v w' hvi hx' => by
        have hset : ∀ k, listed.getD k false = true → (listed.setIfInBounds i true).getD k false = true := by
          intro k hk
          simp only [Array.getD_eq_getD_getElem?, Array.getElem?_setIfInBounds] at hk ⊢
          by_cases e : i = k
          · rw [if_pos e, if_pos (by omega)]; rfl
          · rwa [if_neg e]
        have hseti : (listed.setIfInBounds i true).getD i false = true := by
          simp only [Array.getD_eq_getD_getElem?, Array.getElem?_setIfInBounds]
          simp [hl]
        have hbw : Below W.heap.size w w' := by
          by_cases e : (i == m) = true
          · rw [if_pos e] at hx'; exact hx'
          · rw [if_neg e] at hx'
            exact Below.mono hx'.below hx.size
        refine ih _ _ _ (by simp [hz]) ?_ ?_ (Below.trans hx hbw)
        · rw [Array.toList_setIfInBounds, count_set_true _ _ (by simp [Array.getElem?_eq_getElem hl, h2'])]
          omega
        · intro j hj
          by_cases e : j = i
          · subst e; simp only [upd, if_true]; exact .inr hvi
          · have hlj : listed.getD j false = true := by
              simp only [Array.getD_eq_getD_getElem?, Array.getElem?_setIfInBounds] at hj ⊢
              rwa [if_neg (by omega)] at hj
            simp only [upd, if_neg e]
            rcases hv j hlj with ⟨hd, hlm⟩ | h
            · exact .inl ⟨hd, hset m hlm⟩
            · by_cases em : (i == m) = true
              · rw [if_pos em] at hx'
                have em' : i = m := by simpa using em
                cases hd : deadB ops m j
                · exact .inr (hV2 _ _ _ _ (by omega) hd h hx')
                · exact .inl ⟨rfl, em' ▸ hseti⟩
              · rw [if_neg em] at hx'
                exact .inr (hV _ _ _ _ h hx'))
      unfold wpOp
      rw [ho]
      simp only
      split
      · rename_i hw
        rw [if_pos hw] at hgo
        exact .inl hgo
      · rename_i hw
        rw [if_neg hw] at hgo
        exact hgo
  refine key ops.size (Array.replicate ops.size false) u0 _ (by simp) (by simp [List.count_replicate]) ?_ (Below.drew (Below.refl _ _))
  intro i h
  exfalso
  simp only [Array.getD_eq_getD_getElem?, Array.getElem?_replicate] at h
  split at h <;> simp at h
end

section
variable {P : Program} (w : World)
/-- an append to a row of the call's own, as one operation -/
theorem oper_app {o : Oper} {a : Act} {K : Act → World → Prop} {Q : Exit → Act → World → Prop} (s x : Operand) (t : TypeId)
    (ho : o.op = .call { callee := .builtin .append, args := #[s, x], argTypes := #[t, t] })
    (base e : Nat) (i : TypeInfo) (z : Value) (size bytes : Nat) (ht : P.underlying t = some (.slice e)) (hi : P.info? e = some i) (hz : i.zero = some z)
    (hsize : i.size = size) (hby : i.bytes = bytes) (hzs : z.cells.size = size) (hsz : 0 < size)
    (v : Value) (n : Nat) (xs : List Value) (hs : a.eval s = v) (hown : w.ownsRow base e size v n xs)
    (b : Addr) (m c : Nat) (news : List Value) (hx : a.eval x = .slice (some b) m c) (hl : news.length = m * size) (hnews : ∀ j u, news[j]? = some u → w.cell? (b.add j) = some u) (h1 : ∀ u ∈ news, u.oneCell' = true)
    (h63 : n + m ≤ maxLen) (hbytes : (n + m) * bytes ≤ 140737488355328) (hbase : base ≤ w.heap.size)
    (h : ∀ v' w', w'.ownsRow base e size v' (n + m) (xs ++ news) → w.grownBy w' v.ownBlock → K (a.put o.dst v') w') : o.wp P a w K Q := by
  obtain ⟨v', w', hrun, h2, h3, _, h4⟩ := run_append_own_at (P := P) w base t o.type e i z size bytes ht hi hz hsize hby hzs hsz v n xs hown b m c news hl hnews h1 h63 hbytes hbase
  unfold Oper.wp execOp
  simp only [ho, resolve, invoke, builtin, Sem.run_bind, Sem.run_pure, Result.andThen_ok, List.map_toArray, List.map_cons, List.map_nil, hs, hx, hrun]
  exact h v' w' h2 h3
end

end Go.Proofs.Ytanagdlikoinaaa
