/- FnExactRoomText, the tied card: for every room, the program's RoomText returns what the reference's returns. The listed variables (tables of Go's library) are tied to the program's text. -/
import Derived.Test.YtkdhgngpapfkdaaDoorCardKit
import Derived.Test.YtkdhgngpapfkdaaDoorWRoomText
import Derived.Test.YtkdhgngpapfkdaaDoorTie
import Derived.Test.YtkdhgngpapfkdaaDoorCards
import Derived.SevenTiedAt
import Derived.Carry
namespace Go.Proofs.YtkdhgngpapfkdaaDoor
open Go.ChangeShapes Go.WideShapes Go.ChangeAt Go.RowKit

set_option maxRecDepth 100000 in
theorem fnExactRoomText_lifted (os : Os) (started : os.Started) (H : Type) (enc : TypeId × Value → H) :
    ReturnsInHanded {} Tryd.checked os 8 .any (fun w args => (Rows.fnExactRoomTextSpec.pre enc Tryd.prog Tryd.f8 [] false w args ∧ laidMetH Tryd.prog laid3 w) ∧ sizedMet enc Tryd.prog Tryd.f8 (OpenSpec.ofChange Rows.fnExactRoomTextSpec) false w args) (Rows.fnExactRoomTextSpec.post enc Tryd.prog Tryd.f8 false true false false) := by
  refine returnsInHanded_of_change_and (C := Tryd.checked) (X := fun w _ => laidMetH Tryd.prog laid3 w) (fun _ _ _ hh h => h.of_heap hh) own started (by kernel_rfl) Tryd.func8
    (ChangeSpec.witness_shaped (enc := enc) (C := Tryd.checked) (os := os) (X := fun w _ => laidMetH Tryd.prog laid3 w) false (World.doorLaid Tryd.prog 400 os) #[.agg #[.slice none 0 0]] 8 rfl (World.shaped_of_RefB (by kernel_rfl) (by kernel_rfl)) (by kernel_rfl) (by kernel_rfl) (by kernel_rfl) (door_met os _)) ?_
  intro W base args ds gs before hval0 hW _ _ hL _
  have htab := table_of_laid hL
  have hval : ∀ (j : Nat) t v, Tryd.f8.params[j]? = some t → args[j]? = some v → Value.okWide Tryd.prog W .any base t v := hval0
  have hW' := hW
  obtain ⟨p, q, hA0, hV, rfl, _, _⟩ := hW
  have hA : DataW.TrodAll enc Tryd.prog W 0 (fun _ => true) true Tryd.f8.params.toList args.toList ds p := hA0
  rw [Tryd.params8] at hA hval
  obtain ⟨v0, d0, rfl, rfl, h0⟩ := trodAll_one hA
  obtain ⟨rfl, rfl⟩ := trodVars_none hV
  simp only [List.append_nil] at hW'
  have hk0 := h0
  have hlt0 : ∀ x ∈ p, x.block < W.heap.size := fun x hx => by simpa using hW'.lt x (by simp [hx])
  obtain ⟨A0, l0, c0, rfl, hc0, hm0, hp0⟩ := open_room Tryd.underlying44 rfl rfl (by kernel_rfl) (by kernel_rfl) Tryd.underlying42 Tryd.underlying25 Tryd.underlying3 rfl rfl rfl rfl (by kernel_rfl) (by kernel_rfl) (hval 0 44 v0 rfl rfl) h0
  clear hA0 hval0
  refine (roomText_walk A0 l0 c0 W (Nat.le_trans hc0 hm0) hp0 htab).mono fun e W' ⟨he, hb⟩ => ?_
  subst he
  exact ⟨_, rfl, ⟨_, _, _, [], _, [], hW', trodAll_mk1 (shut_bool Tryd.underlying4 _), trodAll_mk1 (Below.trod laidOut (by kernel_rfl) (of_decide_eq_true (by kernel_rfl)) hk0 hb hlt0), rfl, Below.frame hb _, fun h => by cases h⟩⟩

theorem fnExactRoomText_closed : joinedFacts Tryd.prog 8 Tryd.f8 Rows.fnExactRoomTextSpec Rows.fnExactRoomTextRow = true := by
  unfold joinedFacts
  rw [laidOut, mayEnter_ok, lifts_ok, make_ok]
  kernel_rfl

theorem fnExactRoomText_holds : Rows.FnExactRoomTextSaid :=
  OpenClaim.holds_of_wide 8 Tryd.f8 rfl rfl rfl rfl rfl rfl rfl ⟨rfl, rfl, rfl, rfl, rfl⟩ rfl rfl rfl rfl rfl (by kernel_rfl) Tryd.func8 fnExactRoomText_closed
    (of_decide_eq_true (by kernel_rfl)) (by unfold Func.isWrapper; first | (rw [if_pos (by decide +kernel)]; kernel_rfl) | (rw [if_neg (by decide +kernel)]; exact ⟨rfl, rfl⟩))
    (fun os started H enc _ => fnExactRoomText_lifted os started H enc)

theorem fnExactRoomTextCard_holds : Rows.FnExactRoomTextCardSaid :=
  Claim7.holds_tied_plain_at .later [] [.data, .data, .data] true Rows.fnExactRoomTextCard.stood.harness false
    fnExactRoomText_holds (fun _ h => by cases h) (by kernel_rfl) (fun _ h => by cases h) fnExactRoomText_row_tie rfl ⟨rfl, rfl⟩ (by kernel_rfl) rfl
    (fun f fn hf hfn => by
      obtain rfl : f = 8 := Option.some.inj ((show Tryd.prog.funcNamed Rows.fnExactRoomTextRow.func = some 8 by kernel_rfl).symm.trans hf) |>.symm
      obtain rfl : fn = Tryd.f8 := (Option.some.inj (Tryd.func8.symm.trans hfn)).symm
      exact ⟨by kernel_rfl, fun j t ht => by
        rw [Tryd.params8] at ht
        have hm : t ∈ [44] := by simpa using Array.mem_of_getElem? ht
        have hall : ([44].all fun u => !Tryd.prog.wantsStandIn u) = true := by kernel_rfl
        exact (show Tryd.prog.wantsStandIn t = false by simpa using List.all_eq_true.1 hall t hm)⟩)
    (by kernel_rfl)

end Go.Proofs.YtkdhgngpapfkdaaDoor
