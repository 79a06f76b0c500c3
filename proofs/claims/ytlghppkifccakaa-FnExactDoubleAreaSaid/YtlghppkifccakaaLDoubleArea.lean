/- FnExactDoubleArea: for every list of points, the program's DoubleArea returns what the reference's returns. No condition. -/
import Derived.Test.YtlghppkifccakaaKit
import Derived.Test.YtlghppkifccakaaWDoubleArea
import Derived.Carry
namespace Go.Proofs.Ytlghppkifccakaa
open Go.ChangeShapes Go.WideShapes Go.ChangeAt Go.RowKit

set_option maxRecDepth 100000 in
theorem fnExactDoubleArea_lifted (os : Os) (started : os.Started) (H : Type) (enc : TypeId × Value → H) :
    ReturnsInHanded {} Try.checked os 9 .any (Rows.fnExactDoubleAreaSpec.pre6 enc Try.prog Try.f9 Rows.fnExactDoubleAreaRow.domain false) (Rows.fnExactDoubleAreaSpec.post enc Try.prog Try.f9 false true false false) := by
  refine returnsInHanded_of_change (C := Try.checked) own started (by kernel_rfl) Try.func9
    (ChangeSpec.witness6 (enc := enc) (C := Try.checked) false ⟨#[], #[.slice none 0 0], []⟩ 8 (by kernel_rfl) (by kernel_rfl) (by kernel_rfl) (by kernel_rfl)) ?_
  intro W base args ds gs before hval0 hW _ _
  have hval : ∀ (j : Nat) t v, Try.f9.params[j]? = some t → args[j]? = some v → Value.okWide Try.prog W .any base t v := hval0
  have hW' := hW
  obtain ⟨p, q, hA0, hV, rfl, _, _⟩ := hW
  have hA : DataW.TrodAll enc Try.prog W 0 (fun _ => true) true Try.f9.params.toList args.toList ds p := hA0
  rw [Try.params9] at hA hval
  obtain ⟨v0, d0, rfl, rfl, h0⟩ := trodAll_one hA
  obtain ⟨rfl, rfl⟩ := trodVars_none hV
  simp only [List.append_nil] at hW'
  have hk0 := h0
  have hlt0 : ∀ x ∈ p, x.block < W.heap.size := fun x hx => by simpa using hW'.lt x (by simp [hx])
  obtain ⟨A0, l0, c0, rfl, hc0, hm0, hp0⟩ := open_pts Try.underlying34 Try.underlying23 Try.underlying3 rfl rfl rfl rfl (by kernel_rfl) (by kernel_rfl) (hval 0 34 v0 rfl rfl) h0
  clear hA0 hval0
  refine (doubleArea_walk A0 l0 c0 W (Nat.le_trans hc0 hm0) hp0).mono fun e W' ⟨he, hb⟩ => ?_
  subst he
  exact ⟨_, rfl, ⟨_, _, _, [], _, [], hW', trodAll_mk1 (shut_bool Try.underlying4 _), trodAll_mk1 (Below.trod laidOut (by kernel_rfl) (of_decide_eq_true (by kernel_rfl)) hk0 hb hlt0), rfl, Below.frame hb _, fun h => by cases h⟩⟩

theorem fnExactDoubleArea_closed : joinedFacts Try.prog 9 Try.f9 Rows.fnExactDoubleAreaSpec Rows.fnExactDoubleAreaRow = true := by
  unfold joinedFacts
  rw [laidOut, mayEnter_ok, lifts_ok, make_ok]
  kernel_rfl

theorem fnExactDoubleArea_holds : Rows.FnExactDoubleAreaSaid :=
  OpenClaim.holds_of_wide 9 Try.f9 rfl rfl rfl rfl rfl rfl rfl ⟨rfl, rfl, rfl, rfl, rfl⟩ rfl rfl rfl rfl rfl (by kernel_rfl) Try.func9 fnExactDoubleArea_closed
    (of_decide_eq_true (by kernel_rfl)) (by unfold Func.isWrapper; first | (rw [if_pos (by decide +kernel)]; kernel_rfl) | (rw [if_neg (by decide +kernel)]; exact ⟨rfl, rfl⟩))
    (fun os started H enc _ => fnExactDoubleArea_lifted os started H enc)

end Go.Proofs.Ytlghppkifccakaa
