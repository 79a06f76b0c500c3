/- FnExactAreApart: for all pairs of rooms, the program's AreApart returns what the reference's returns. No condition. -/
import Derived.Test.YtmccffmkfdcmmaaKit
import Derived.Test.YtmccffmkfdcmmaaWAreApart
import Derived.Carry
namespace Go.Proofs.Ytmccffmkfdcmmaa
open Go.ChangeShapes Go.WideShapes Go.ChangeAt Go.RowKit

set_option maxRecDepth 100000 in
theorem fnExactAreApart_lifted (os : Os) (started : os.Started) (H : Type) (enc : TypeId × Value → H) :
    ReturnsInHanded {} Try.checked os 3 .any (Rows.fnExactAreApartSpec.pre6 enc Try.prog Try.f3 Rows.fnExactAreApartRow.domain false) (Rows.fnExactAreApartSpec.post enc Try.prog Try.f3 false true false false) := by
  refine returnsInHanded_of_change (C := Try.checked) own started (by kernel_rfl) Try.func3
    (ChangeSpec.witness6 (enc := enc) (C := Try.checked) false ⟨#[], #[.agg #[.slice none 0 0], .agg #[.slice none 0 0]], []⟩ 8 (by kernel_rfl) (by kernel_rfl) (by kernel_rfl) (by kernel_rfl)) ?_
  intro W base args ds gs before hval0 hW _ _
  have hval : ∀ (j : Nat) t v, Try.f3.params[j]? = some t → args[j]? = some v → Value.okWide Try.prog W .any base t v := hval0
  have hW' := hW
  obtain ⟨p, q, hA0, hV, rfl, _, _⟩ := hW
  have hA : DataW.TrodAll enc Try.prog W 0 (fun _ => true) true Try.f3.params.toList args.toList ds p := hA0
  rw [Try.params3] at hA hval
  obtain ⟨v0, v1, d0, d1, p0, p1, rfl, rfl, rfl, h0, h1⟩ := trodAll_two hA
  obtain ⟨rfl, rfl⟩ := trodVars_none hV
  simp only [List.append_nil] at hW'
  have hk0 := h0
  have hlt0 : ∀ x ∈ p0, x.block < W.heap.size := fun x hx => by simpa using hW'.lt x (by simp [hx])
  have hk1 := h1
  have hlt1 : ∀ x ∈ p1, x.block < W.heap.size := fun x hx => by simpa using hW'.lt x (by simp [hx])
  obtain ⟨A0, l0, c0, rfl, hc0, hm0, hp0⟩ := open_room Try.underlying24 rfl rfl (by kernel_rfl) (by kernel_rfl) Try.underlying22 Try.underlying33 Try.underlying3 rfl rfl rfl rfl (by kernel_rfl) (by kernel_rfl) (hval 0 24 v0 rfl rfl) h0
  obtain ⟨A1, l1, c1, rfl, hc1, hm1, hp1⟩ := open_room Try.underlying24 rfl rfl (by kernel_rfl) (by kernel_rfl) Try.underlying22 Try.underlying33 Try.underlying3 rfl rfl rfl rfl (by kernel_rfl) (by kernel_rfl) (hval 1 24 v1 rfl rfl) h1
  clear hA0 hval0
  refine (areApart_walk A0 l0 c0 A1 l1 c1 W (Nat.le_trans hc0 hm0) hp0 (Nat.le_trans hc1 hm1) hp1).mono fun e W' ⟨he, hb⟩ => ?_
  subst he
  exact ⟨_, rfl, ⟨_, _, _, [], _, [], hW', trodAll_mk1 (shut_bool Try.underlying4 _), trodAll_mk2 (Below.trod laidOut (by kernel_rfl) (of_decide_eq_true (by kernel_rfl)) hk0 hb hlt0) (Below.trod laidOut (by kernel_rfl) (of_decide_eq_true (by kernel_rfl)) hk1 hb hlt1), rfl, Below.frame hb _, fun h => by cases h⟩⟩

theorem fnExactAreApart_closed : joinedFacts Try.prog 3 Try.f3 Rows.fnExactAreApartSpec Rows.fnExactAreApartRow = true := by
  unfold joinedFacts
  rw [laidOut, mayEnter_ok, lifts_ok, make_ok]
  kernel_rfl

theorem fnExactAreApart_holds : Rows.FnExactAreApartSaid :=
  OpenClaim.holds_of_wide 3 Try.f3 rfl rfl rfl rfl rfl rfl rfl ⟨rfl, rfl, rfl, rfl, rfl⟩ rfl rfl rfl rfl rfl (by kernel_rfl) Try.func3 fnExactAreApart_closed
    (of_decide_eq_true (by kernel_rfl)) (by unfold Func.isWrapper; first | (rw [if_pos (by decide +kernel)]; kernel_rfl) | (rw [if_neg (by decide +kernel)]; exact ⟨rfl, rfl⟩))
    (fun os started H enc _ => fnExactAreApart_lifted os started H enc)

end Go.Proofs.Ytmccffmkfdcmmaa
