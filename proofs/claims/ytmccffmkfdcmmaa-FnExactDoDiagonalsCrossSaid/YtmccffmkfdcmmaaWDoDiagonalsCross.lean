/- The walk of FnExactDoDiagonalsCross. -/
import Derived.Test.YtmccffmkfdcmmaaDCrossP
import Derived.Test.YtmccffmkfdcmmaaDCrossS
import Derived.Test.YtmccffmkfdcmmaaDCrossW
import Derived.Test.YtmccffmkfdcmmaaMarks
import Derived.Test.YtmccffmkfdcmmaaEqWall
import Derived.Test.YtmccffmkfdcmmaaRoomLaw
namespace Go.Proofs.Ytmccffmkfdcmmaa
open Go.RowKit

set_option maxRecDepth 100000 in
set_option maxHeartbeats 6400000 in
theorem doDiagonalsCross_walk (A0 : Option Addr) (l0 : List (Int × Int)) (c0 : Nat) (A1 : Option Addr) (l1 : List Int) (c1 : Nat) (A2 : Option Addr) (l2 : List Int) (c2 : Nat) (w : World) (hm0 : l0.length ≤ maxLen) (hp0 : RPts w A0 l0) (hp1 : RInts w A1 l1) (hp2 : RInts w A2 l2) :
    Calls Try.prog 7 #[.agg #[.slice A0 l0.length c0], .slice A1 l1.length c1, .slice A2 l2.length c2] w fun e w' => e = .returned (.bool true) ∧ Below w.heap.size w w' := by
  have HB : Hid (∀ w', Ext (w.alloc (.cells #[.slice A0 l0.length c0] 24)) w' → w'.cell? ⟨w.heap.size, 0, none⟩ = some (.slice A0 l0.length c0) ∧ w.heap.size < w'.heap.size) := fun w' hx => by
    and_intros <;> (first | (have hz := hx.size; simp at hz; omega) | ((first | rw [hx.cells _ _ (by first | (simp; done) | (simp; omega))] | rw [hx.frozens _ _ (by first | (simp; done) | (simp; omega))]); (first | (simp [go_sem]; done) | (simp [go_sem, World.cell?_alloc_past]; done) | (simp [go_sem, World.frozen?]; done))))
  by_cases hb1 : (1048576 : Int) < l1.length
  · go_enter Try.func7, Try.ntmps7
    go_wp2
    go_ret
    exact ⟨rfl, Ext.below (by (repeat (first | exact Ext.refl _ | assumption | apply Ext.alloc | apply Ext.drew | apply Ext.drewN | (refine Ext.trans ?_ (by assumption)))))⟩
  by_cases hb2 : (1048576 : Int) < l2.length
  · go_enter Try.func7, Try.ntmps7
    go_wp2
    go_ret
    exact ⟨rfl, Ext.below (by (repeat (first | exact Ext.refl _ | assumption | apply Ext.alloc | apply Ext.drew | apply Ext.drewN | (refine Ext.trans ?_ (by assumption)))))⟩
  by_cases hb0 : (1048576 : Int) < l0.length
  · go_enter Try.func7, Try.ntmps7
    go_wp2_with fail
    refine (szRoomL_any _ _ _ _ _ hm0 (by omega) (by omega)).mono ?_
    rw [if_pos (by omega)]
    rintro e w1 ⟨rfl, ex1⟩
    have b1 := HB.out w1 (by (repeat (first | exact Ext.refl _ | assumption | apply Ext.alloc | apply Ext.drew | apply Ext.drewN | (refine Ext.trans ?_ (by assumption)))))
    go_wp2
    go_ret
    exact ⟨rfl, Ext.below (by (repeat (first | exact Ext.refl _ | assumption | apply Ext.alloc | apply Ext.drew | apply Ext.drewN | (refine Ext.trans ?_ (by assumption)))))⟩
  have hn0 : l0.length ≤ 1048576 := by omega
  have hn1 : l1.length ≤ 1048576 := by omega
  have hn2 : l2.length ≤ 1048576 := by omega
  go_enter Try.func7, Try.ntmps7
  go_wp2_with fail
  refine (szRoomL_any _ _ _ _ _ hm0 (by omega) (by omega)).mono ?_
  rw [if_neg (by omega)]
  rintro e w1 ⟨rfl, ex1⟩
  have f1 := HB.out w1 (by (repeat (first | exact Ext.refl _ | assumption | apply Ext.alloc | apply Ext.drew | apply Ext.drewN | (refine Ext.trans ?_ (by assumption)))))
  go_wp2_with fail
  refine (toRoom_any _ _ _ _ (hp0.ext (by (repeat (first | exact Ext.refl _ | assumption | apply Ext.alloc | apply Ext.drew | apply Ext.drewN | (refine Ext.trans ?_ (by assumption)))))) hn0).mono ?_
  rintro e w2 ⟨S0, rfl, o2, ex2⟩
  clear f1
  have f2 := HB.out w2 (by (repeat (first | exact Ext.refl _ | assumption | apply Ext.alloc | apply Ext.drew | apply Ext.drewN | (refine Ext.trans ?_ (by assumption)))))
  go_wp2_with fail
  refine (toIntS_any _ _ _ _ (hp1.ext (by (repeat (first | exact Ext.refl _ | assumption | apply Ext.alloc | apply Ext.drew | apply Ext.drewN | (refine Ext.trans ?_ (by assumption)))))) hn1).mono ?_
  rintro e w3 ⟨S1, rfl, o3, ex3⟩
  clear f2
  have f3 := HB.out w3 (by (repeat (first | exact Ext.refl _ | assumption | apply Ext.alloc | apply Ext.drew | apply Ext.drewN | (refine Ext.trans ?_ (by assumption)))))
  go_wp2_with fail
  refine (toIntS_any _ _ _ _ (hp2.ext (by (repeat (first | exact Ext.refl _ | assumption | apply Ext.alloc | apply Ext.drew | apply Ext.drewN | (refine Ext.trans ?_ (by assumption)))))) hn2).mono ?_
  rintro e w4 ⟨S2, rfl, o4, ex4⟩
  clear f3
  have f4 := HB.out w4 (by (repeat (first | exact Ext.refl _ | assumption | apply Ext.alloc | apply Ext.drew | apply Ext.drewN | (refine Ext.trans ?_ (by assumption)))))
  have p2 := o2.r (Nat.le_refl _)
  have p3 := o3.r
  have p4 := o4.r
  go_wp2_with fail
  refine (sDoDiagonalsCross_any _ _ _ _ _ _ _ _ _ _ (p2.ext (by (repeat (first | exact Ext.refl _ | assumption | apply Ext.alloc | apply Ext.drew | apply Ext.drewN | (refine Ext.trans ?_ (by assumption)))))) (p3.ext (by (repeat (first | exact Ext.refl _ | assumption | apply Ext.alloc | apply Ext.drew | apply Ext.drewN | (refine Ext.trans ?_ (by assumption)))))) (p4.ext (by (repeat (first | exact Ext.refl _ | assumption | apply Ext.alloc | apply Ext.drew | apply Ext.drewN | (refine Ext.trans ?_ (by assumption)))))) hn0).mono ?_
  rintro e w5 ⟨rfl, ex5⟩
  clear f4 o2 o3 o4
  have f5 := HB.out w5 (by (repeat (first | exact Ext.refl _ | assumption | apply Ext.alloc | apply Ext.drew | apply Ext.drewN | (refine Ext.trans ?_ (by assumption)))))
  go_wp2_with fail
  refine (toRoom_any _ _ _ _ (hp0.ext (by (repeat (first | exact Ext.refl _ | assumption | apply Ext.alloc | apply Ext.drew | apply Ext.drewN | (refine Ext.trans ?_ (by assumption)))))) hn0).mono ?_
  rintro e w6 ⟨B0, rfl, o6, ex6⟩
  clear f5
  have f6 := HB.out w6 (by (repeat (first | exact Ext.refl _ | assumption | apply Ext.alloc | apply Ext.drew | apply Ext.drewN | (refine Ext.trans ?_ (by assumption)))))
  have p6 := o6.r (Nat.le_refl _)
  have HX : Hid (∀ w', Ext (w6.alloc (.cells #[.slice B0 l0.length l0.length] 29)) w' → w'.cell? ⟨w6.heap.size, 0, none⟩ = some (.slice B0 l0.length l0.length) ∧ w6.heap.size < w'.heap.size) := fun w' hx => by
    and_intros <;> (first | (have hz := hx.size; simp at hz; omega) | ((first | rw [hx.cells _ _ (by first | (simp; done) | (simp; omega))] | rw [hx.frozens _ _ (by first | (simp; done) | (simp; omega))]); (first | (simp [go_sem]; done) | (simp [go_sem, World.cell?_alloc_past]; done) | (simp [go_sem, World.frozen?]; done))))
  go_wp2_with fail
  refine (toIntS_any _ _ _ _ (hp1.ext (by (repeat (first | exact Ext.refl _ | assumption | apply Ext.alloc | apply Ext.drew | apply Ext.drewN | (refine Ext.trans ?_ (by assumption)))))) hn1).mono ?_
  rintro e w7 ⟨B1, rfl, o7, ex7⟩
  clear f6
  have f7 := HB.out w7 (by (repeat (first | exact Ext.refl _ | assumption | apply Ext.alloc | apply Ext.drew | apply Ext.drewN | (refine Ext.trans ?_ (by assumption)))))
  have h7 := HX.out w7 (by (repeat (first | exact Ext.refl _ | assumption | apply Ext.alloc | apply Ext.drew | apply Ext.drewN | (refine Ext.trans ?_ (by assumption)))))
  go_wp2_with fail
  refine (toIntS_any _ _ _ _ (hp2.ext (by (repeat (first | exact Ext.refl _ | assumption | apply Ext.alloc | apply Ext.drew | apply Ext.drewN | (refine Ext.trans ?_ (by assumption)))))) hn2).mono ?_
  rintro e w8 ⟨B2, rfl, o8, ex8⟩
  clear f7 h7
  have f8 := HB.out w8 (by (repeat (first | exact Ext.refl _ | assumption | apply Ext.alloc | apply Ext.drew | apply Ext.drewN | (refine Ext.trans ?_ (by assumption)))))
  have h8 := HX.out w8 (by (repeat (first | exact Ext.refl _ | assumption | apply Ext.alloc | apply Ext.drew | apply Ext.drewN | (refine Ext.trans ?_ (by assumption)))))
  have p7 := o7.r
  have p8 := o8.r
  go_wp2_with fail
  refine (DoDiagonalsCross_any _ _ _ _ _ _ _ _ _ _ (p6.ext (by (repeat (first | exact Ext.refl _ | assumption | apply Ext.alloc | apply Ext.drew | apply Ext.drewN | (refine Ext.trans ?_ (by assumption)))))) (p7.ext (by (repeat (first | exact Ext.refl _ | assumption | apply Ext.alloc | apply Ext.drew | apply Ext.drewN | (refine Ext.trans ?_ (by assumption)))))) (p8.ext (by (repeat (first | exact Ext.refl _ | assumption | apply Ext.alloc | apply Ext.drew | apply Ext.drewN | (refine Ext.trans ?_ (by assumption)))))) hn0).mono ?_
  rintro e w9 ⟨rfl, ex9⟩
  clear f8 h8 o6 o7 o8
  have f9 := HB.out w9 (by (repeat (first | exact Ext.refl _ | assumption | apply Ext.alloc | apply Ext.drew | apply Ext.drewN | (refine Ext.trans ?_ (by assumption)))))
  have h9 := HX.out w9 (by (repeat (first | exact Ext.refl _ | assumption | apply Ext.alloc | apply Ext.drew | apply Ext.drewN | (refine Ext.trans ?_ (by assumption)))))
  go_wp2
  refine wp_flow (by kernel_rfl) (by kernel_rfl) (fun u => ⟨#[_, _, _, _, _, _, _, _, _, _, _, _, _, _, _, _, _, _, _, _, _, _, _, _, _, _, _, _, _, _, _, _, _, _, _, _, _, _, _, _, _, _, _, _, u 0, u 1, u 2, u 3, u 4, _, _, _, _, _, _, _, _, _, _], _⟩) (fun i => List.getD [_, _, _, _, _] i undef) [is ?v1_0, is ?v1_1, (IsRoom l0), is ?v1_3, is ?v1_4] (fun w' => w'.cell? ⟨w.heap.size, 0, none⟩ = some (.slice A0 l0.length c0) ∧ w.heap.size < w'.heap.size ∧ w'.cell? ⟨w6.heap.size, 0, none⟩ = some (.slice B0 l0.length l0.length) ∧ w6.heap.size < w'.heap.size) _ rfl ?hC1 ?hs1 ?hV1 ?fin1
  case hC1 => exact fun w' hx => (by have hq : Ext _ w' := hx; have hf0 := HB.out w' (by (repeat (first | exact Ext.refl _ | assumption | apply Ext.alloc | apply Ext.drew | apply Ext.drewN | (refine Ext.trans ?_ (by assumption))))); have hf1 := HX.out w' (by (repeat (first | exact Ext.refl _ | assumption | apply Ext.alloc | apply Ext.drew | apply Ext.drewN | (refine Ext.trans ?_ (by assumption))))); and_intros <;> first | exact hf0 | exact hf0.1 | exact hf0.2.1 | exact hf0.2.2.1 | exact hf0.2.2.2.1 | exact hf0.2.2.2.2.1 | exact hf0.2.2.2.2.2.1 | exact hf0.2.2.2.2.2.2.1 | exact hf0.2.2.2.2.2.2.2.1 | exact hf0.2.2.2.2.2.2.2.2.1 | exact hf0.2.2.2.2.2.2.2.2.2.1 | exact hf0.2.2.2.2.2.2.2.2.2.2.1 | exact hf0.2.2.2.2.2.2.2.2.2.2.2.1 | exact hf0.2.2.2.2.2.2.2.2.2.2.2.2.1 | exact hf0.2.2.2.2.2.2.2.2.2.2.2.2.2.1 | exact hf0.2 | exact hf0.2.2 | exact hf0.2.2.2 | exact hf0.2.2.2.2 | exact hf0.2.2.2.2.2 | exact hf0.2.2.2.2.2.2 | exact hf0.2.2.2.2.2.2.2 | exact hf0.2.2.2.2.2.2.2.2 | exact hf0.2.2.2.2.2.2.2.2.2 | exact hf0.2.2.2.2.2.2.2.2.2.2 | exact hf0.2.2.2.2.2.2.2.2.2.2.2 | exact hf0.2.2.2.2.2.2.2.2.2.2.2.2 | exact hf0.2.2.2.2.2.2.2.2.2.2.2.2.2 | exact hf1 | exact hf1.1 | exact hf1.2.1 | exact hf1.2.2.1 | exact hf1.2.2.2.1 | exact hf1.2.2.2.2.1 | exact hf1.2.2.2.2.2.1 | exact hf1.2.2.2.2.2.2.1 | exact hf1.2.2.2.2.2.2.2.1 | exact hf1.2.2.2.2.2.2.2.2.1 | exact hf1.2.2.2.2.2.2.2.2.2.1 | exact hf1.2.2.2.2.2.2.2.2.2.2.1 | exact hf1.2.2.2.2.2.2.2.2.2.2.2.1 | exact hf1.2.2.2.2.2.2.2.2.2.2.2.2.1 | exact hf1.2.2.2.2.2.2.2.2.2.2.2.2.2.1 | exact hf1.2 | exact hf1.2.2 | exact hf1.2.2.2 | exact hf1.2.2.2.2 | exact hf1.2.2.2.2.2 | exact hf1.2.2.2.2.2.2 | exact hf1.2.2.2.2.2.2.2 | exact hf1.2.2.2.2.2.2.2.2 | exact hf1.2.2.2.2.2.2.2.2.2 | exact hf1.2.2.2.2.2.2.2.2.2.2 | exact hf1.2.2.2.2.2.2.2.2.2.2.2 | exact hf1.2.2.2.2.2.2.2.2.2.2.2.2 | exact hf1.2.2.2.2.2.2.2.2.2.2.2.2.2)
  case hs1 =>
    repeat' (first
      | exact FSteps.nil
      | refine FSteps.cons ?_ ?_
      | (refine FStep.off_ _ _ _ rfl rfl ?_ (fun _ => rfl) ?_; (focus (intro u w hd; simp [vOf, is, Region.binds] at hd; simp [hd])); (intro w'; exact rfl); done)
      | ((first
          | refine FStep.plain rfl ?_
          | (refine FStep.on_ _ _ _ rfl rfl ?_ ?_; (focus (intro u w hd; simp [vOf, is, Region.binds] at hd; simp [hd]))))
         intro u w hW hC hd K hK
         (try simp [vOf, is, Region.binds] at hd)
         simp only [upd, Nat.reduceEqDiff, if_true, if_false] at hK
         (try simp only [hd] at hK)
         go_simp
         (first
           | (refine hK _ _ ?_ ?_; (first | exact rfl); (repeat (first | exact Ext.refl _ | assumption | apply Ext.alloc | apply Ext.drew | apply Ext.drewN | (refine Ext.trans ?_ (by assumption)))))
           | (go_at_call 13; refine (toRoom_is _ _ _ _ (hp0.ext (by (repeat (first | exact Ext.refl _ | assumption | apply Ext.alloc | apply Ext.drew | apply Ext.drewN | (refine Ext.trans ?_ (by assumption)))))) hn0).mono ?_; rintro e w1 ⟨v, rfl, hv, hb⟩; (try go_simp); refine hK _ _ ?_ ?_; exact hv; (repeat (first | exact Ext.refl _ | assumption | apply Ext.alloc | apply Ext.drew | apply Ext.drewN | (refine Ext.trans ?_ (by assumption)))))
           | (go_at_call 15; refine (eqRoom_is (l := l0) ⟨_, _, rfl, p6.ext (by (repeat (first | exact Ext.refl _ | assumption | apply Ext.alloc | apply Ext.drew | apply Ext.drewN | (refine Ext.trans ?_ (by assumption)))))⟩ (by first | exact hd.2 | exact hd.1 | exact hd) hn0).mono ?_; rintro e w1 ⟨rfl, hb⟩; (try go_simp); refine hK _ _ ?_ ?_; (first | exact rfl); (repeat (first | exact Ext.refl _ | assumption | apply Ext.alloc | apply Ext.drew | apply Ext.drewN | (refine Ext.trans ?_ (by assumption))))))))
  case hV1 => (simp only [List.forall_mem_cons]; simp [stable_is, IsRoom_stable])
  intro u w2 hW2 hC2 hd
  simp only [AllV, is] at hd
  have hs2 := hd.2.2.1
  simp only [hd]
  clear hd
  obtain ⟨wa, rfl⟩ : ∃ ws : World, ws = w2 := ⟨_, rfl⟩
  clear hC2 hs2 f9 h9
  go_wp2_with fail
  refine (toIntS_any _ _ _ _ (hp1.ext (by (repeat (first | exact Ext.refl _ | assumption | apply Ext.alloc | apply Ext.drew | apply Ext.drewN | (refine Ext.trans ?_ (by assumption)))))) hn1).mono ?_
  rintro e wb ⟨D1, rfl, ob, exb⟩
  go_wp2_with fail
  refine (eqIntS_same _ _ _ _ _ _ (p7.ext (by (repeat (first | exact Ext.refl _ | assumption | apply Ext.alloc | apply Ext.drew | apply Ext.drewN | (refine Ext.trans ?_ (by assumption)))))) (ob.r) hn1).mono ?_
  rintro e wc ⟨rfl, exc⟩
  go_wp2_with fail
  refine (toIntS_any _ _ _ _ (hp2.ext (by (repeat (first | exact Ext.refl _ | assumption | apply Ext.alloc | apply Ext.drew | apply Ext.drewN | (refine Ext.trans ?_ (by assumption)))))) hn2).mono ?_
  rintro e wd ⟨D2, rfl, od, exd⟩
  go_wp2_with fail
  refine (eqIntS_same _ _ _ _ _ _ (p8.ext (by (repeat (first | exact Ext.refl _ | assumption | apply Ext.alloc | apply Ext.drew | apply Ext.drewN | (refine Ext.trans ?_ (by assumption)))))) (od.r) hn2).mono ?_
  rintro e wf ⟨rfl, exf⟩
  go_wp2
  go_ret
  exact ⟨rfl, Ext.below (by (repeat (first | exact Ext.refl _ | assumption | apply Ext.alloc | apply Ext.drew | apply Ext.drewN | (refine Ext.trans ?_ (by assumption)))))⟩

end Go.Proofs.Ytmccffmkfdcmmaa
