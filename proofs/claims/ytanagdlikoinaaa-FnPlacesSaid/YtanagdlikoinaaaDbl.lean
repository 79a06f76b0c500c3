/-
  Contract: the program's DoubleArea, beside rooms.
-/
import Derived.Test.YtanagdlikoinaaaJ2
namespace Go.Proofs.Ytanagdlikoinaaa
open Go.RowKit

/-- DoubleArea, as both texts give it -/
def dblV (l : List (Int × Int)) : Int := if l.length ≤ 10 then (if allok l = true then areaZ l else 0) else 0

set_option maxHeartbeats 800000 in
theorem DoubleArea_any (A : Option Addr) (l : List (Int × Int)) (c : Nat) (w : World) (hp : RPts w A l) (hn : l.length ≤ 1048576) :
    Calls Try.prog 18 #[.slice A l.length c] w fun e w' => e = .returned (.int .i64 (dblV l)) ∧ Ext w w' := by
  unfold dblV
  by_cases h : l.length ≤ 10
  · rw [if_pos h]
    cases ha : allok l
    · go_enter Try.func18, Try.ntmps18
      go_wp2_with (go_at_call 37; refine (pointsOk_any _ _ _ _ hp hn).mono ?_; rintro e w1 ⟨rfl, hb⟩)
      go_ret
      exact ⟨rfl, by (repeat (first | exact Ext.refl _ | assumption | apply Ext.alloc | apply Ext.drew | apply Ext.drewN | (refine Ext.trans ?_ (by assumption))))⟩
    · have hf : Fine l := ⟨ha, h⟩
      go_enter Try.func18, Try.ntmps18
      go_wp2_with (first | (go_at_call 37; refine (pointsOk_any _ _ _ _ hp hn).mono ?_; rintro e w1 ⟨rfl, hb⟩) | (go_at_call 36; refine (area_any _ _ _ _ (hp.ext (by (repeat (first | exact Ext.refl _ | assumption | apply Ext.alloc | apply Ext.drew | apply Ext.drewN | (refine Ext.trans ?_ (by assumption)))))) hf).mono ?_; rintro e w2 ⟨rfl, hb2⟩))
      go_ret
      exact ⟨rfl, by (repeat (first | exact Ext.refl _ | assumption | apply Ext.alloc | apply Ext.drew | apply Ext.drewN | (refine Ext.trans ?_ (by assumption))))⟩
  · rw [if_neg h]
    go_enter Try.func18, Try.ntmps18
    go_wp2
    go_ret
    exact ⟨rfl, by (repeat (first | exact Ext.refl _ | assumption | apply Ext.alloc | apply Ext.drew | apply Ext.drewN | (refine Ext.trans ?_ (by assumption))))⟩

end Go.Proofs.Ytanagdlikoinaaa
