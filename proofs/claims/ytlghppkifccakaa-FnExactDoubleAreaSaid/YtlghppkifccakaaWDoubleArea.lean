/- The walk of FnExactDoubleArea. -/
import Derived.Test.YtlghppkifccakaaCor2
namespace Go.Proofs.Ytlghppkifccakaa
open Go.RowKit

set_option maxRecDepth 100000 in
set_option maxHeartbeats 1600000 in
theorem doubleArea_walk (A0 : Option Addr) (l0 : List (Int × Int)) (c0 : Nat) (w : World) (hm0 : l0.length ≤ maxLen) (hp0 : RPts w A0 l0) :
    Calls Try.prog 9 #[.slice A0 l0.length c0] w fun e w' => e = .returned (.bool true) ∧ Below w.heap.size w w' := by
  by_cases hb0 : (1048576 : Int) < l0.length
  · go_enter Try.func9, Try.ntmps9
    go_wp2_with fail
    refine (szPointS_any _ _ _ _ _ hm0 (by omega) (by omega)).mono ?_
    rw [if_pos (by omega)]
    rintro e w1 ⟨rfl, rfl⟩
    go_wp2
    go_ret
    exact ⟨rfl, Below.refl _ _⟩
  have hn0 : l0.length ≤ 1048576 := by omega
  go_enter Try.func9, Try.ntmps9
  go_wp2_with fail
  refine (szPointS_any _ _ _ _ _ hm0 (by omega) (by omega)).mono ?_
  rw [if_neg (by omega)]
  rintro e w1 ⟨rfl, rfl⟩
  go_wp2_with fail
  refine (toPointS_any _ _ _ _ hp0 hn0).mono ?_
  rintro e w2 ⟨S0, rfl, o2, ex2⟩
  go_wp2_with fail
  refine (sDoubleArea_any _ _ _ _ ((o2.r (Nat.le_refl _)).ext (by (repeat (first | exact Ext.refl _ | assumption | apply Ext.alloc | apply Ext.drew | apply Ext.drewN | (refine Ext.trans ?_ (by assumption)))))) hn0).mono ?_
  rintro e w3 ⟨rfl, ex3⟩
  go_wp2_with fail
  refine (toPointS_any _ _ _ _ (hp0.ext (by (repeat (first | exact Ext.refl _ | assumption | apply Ext.alloc | apply Ext.drew | apply Ext.drewN | (refine Ext.trans ?_ (by assumption)))))) hn0).mono ?_
  rintro e w4 ⟨B0, rfl, o4, ex4⟩
  go_wp2_with fail
  refine (DoubleArea_any _ _ _ _ ((o4.r (Nat.le_refl _)).ext (by (repeat (first | exact Ext.refl _ | assumption | apply Ext.alloc | apply Ext.drew | apply Ext.drewN | (refine Ext.trans ?_ (by assumption)))))) hn0).mono ?_
  rintro e w5 ⟨rfl, ex5⟩
  go_wp2_with fail
  refine (toPointS_any _ _ _ _ (hp0.ext (by (repeat (first | exact Ext.refl _ | assumption | apply Ext.alloc | apply Ext.drew | apply Ext.drewN | (refine Ext.trans ?_ (by assumption)))))) hn0).mono ?_
  rintro e w6 ⟨C0, rfl, o6, ex6⟩
  go_wp2_with fail
  refine (eqPointS_same _ _ _ _ _ _ ((o4.r (Nat.le_refl _)).ext (by (repeat (first | exact Ext.refl _ | assumption | apply Ext.alloc | apply Ext.drew | apply Ext.drewN | (refine Ext.trans ?_ (by assumption)))))) ((o6.r (Nat.le_refl _)).ext (by (repeat (first | exact Ext.refl _ | assumption | apply Ext.alloc | apply Ext.drew | apply Ext.drewN | (refine Ext.trans ?_ (by assumption)))))) hn0).mono ?_
  rintro e w7 ⟨rfl, ex7⟩
  go_wp2
  go_ret
  exact ⟨rfl, Ext.below (by (repeat (first | exact Ext.refl _ | assumption | apply Ext.alloc | apply Ext.drew | apply Ext.drewN | (refine Ext.trans ?_ (by assumption)))))⟩

end Go.Proofs.Ytlghppkifccakaa
