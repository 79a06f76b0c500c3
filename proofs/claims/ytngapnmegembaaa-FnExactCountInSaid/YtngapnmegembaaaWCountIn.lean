/- The walk of FnExactCountIn. -/
import Derived.Test.YtngapnmegembaaaCountIn
namespace Go.Proofs.Ytngapnmegembaaa
open Go.RowKit

set_option maxRecDepth 100000 in
set_option maxHeartbeats 3200000 in
theorem countIn_walk (A0 : Option Addr) (l0 : List (Int × Int)) (c0 : Nat) (A1 : Option Addr) (l1 : List (Int × Int)) (c1 : Nat) (w : World) (hm0 : l0.length ≤ maxLen) (hp0 : RPts w A0 l0) (hm1 : l1.length ≤ maxLen) (hp1 : RPts w A1 l1) :
    Calls Try.prog 16 #[.agg #[.slice A0 l0.length c0], .slice A1 l1.length c1] w fun e w' => e = .returned (.bool true) ∧ Below w.heap.size w w' := by
  have HB : Hid (∀ w', Ext (w.alloc (.cells #[.slice A0 l0.length c0] 24)) w' → w'.cell? ⟨w.heap.size, 0, none⟩ = some (.slice A0 l0.length c0) ∧ w.heap.size < w'.heap.size) := fun w' hx => by
    and_intros <;> (first | (have hz := hx.size; simp at hz; omega) | ((first | rw [hx.cells _ _ (by first | (simp; done) | (simp; omega))] | rw [hx.frozens _ _ (by first | (simp; done) | (simp; omega))]); (first | (simp [go_sem]; done) | (simp [go_sem, World.cell?_alloc_past]; done) | (simp [go_sem, World.frozen?]; done))))
  by_cases hb0 : (1048576 : Int) < l0.length
  · go_enter Try.func16, Try.ntmps16
    go_wp2_with fail
    refine (szRoomL_any _ _ _ _ _ hm0 (by omega) (by omega)).mono ?_
    rw [if_pos (by omega)]
    rintro e w1 ⟨rfl, ex1⟩
    have b1 := HB.out w1 (by (repeat (first | exact Ext.refl _ | assumption | apply Ext.alloc | apply Ext.drew | apply Ext.drewN | (refine Ext.trans ?_ (by assumption)))))
    go_wp2
    go_ret
    exact ⟨rfl, Ext.below (by (repeat (first | exact Ext.refl _ | assumption | apply Ext.alloc | apply Ext.drew | apply Ext.drewN | (refine Ext.trans ?_ (by assumption)))))⟩
  have hn0 : l0.length ≤ 1048576 := by omega
  by_cases hb1 : (1048576 - l0.length : Int) < l1.length
  · go_enter Try.func16, Try.ntmps16
    go_wp2_with fail
    refine (szRoomL_any _ _ _ _ _ hm0 (by omega) (by omega)).mono ?_
    rw [if_neg (by omega)]
    rintro e w1 ⟨rfl, ex1⟩
    have b1 := HB.out w1 (by (repeat (first | exact Ext.refl _ | assumption | apply Ext.alloc | apply Ext.drew | apply Ext.drewN | (refine Ext.trans ?_ (by assumption)))))
    go_wp2_with fail
    refine (szPointS_any _ _ _ _ _ hm1 (by omega) (by omega)).mono ?_
    rw [if_pos (by omega)]
    rintro e w2 ⟨rfl, rfl⟩
    go_wp2
    go_ret
    exact ⟨rfl, Ext.below (by (repeat (first | exact Ext.refl _ | assumption | apply Ext.alloc | apply Ext.drew | apply Ext.drewN | (refine Ext.trans ?_ (by assumption)))))⟩
  have hn1 : l1.length ≤ 1048576 := by omega
  go_enter Try.func16, Try.ntmps16
  go_wp2_with fail
  refine (szRoomL_any _ _ _ _ _ hm0 (by omega) (by omega)).mono ?_
  rw [if_neg (by omega)]
  rintro e w1 ⟨rfl, ex1⟩
  have fHB1 := HB.out w1 (by (repeat (first | exact Ext.refl _ | assumption | apply Ext.alloc | apply Ext.drew | apply Ext.drewN | (refine Ext.trans ?_ (by assumption)))))
  go_wp2_with fail
  refine (szPointS_any _ _ _ _ _ hm1 (by omega) (by omega)).mono ?_
  rw [if_neg (by omega)]
  rintro e w2 ⟨rfl, rfl⟩
  go_wp2_with fail
  refine (toRoom_any _ _ _ _ (hp0.ext (by (repeat (first | exact Ext.refl _ | assumption | apply Ext.alloc | apply Ext.drew | apply Ext.drewN | (refine Ext.trans ?_ (by assumption)))))) hn0).mono ?_
  rintro e w3 ⟨S0, rfl, o3, ex3⟩
  clear fHB1
  have fHB3 := HB.out w3 (by (repeat (first | exact Ext.refl _ | assumption | apply Ext.alloc | apply Ext.drew | apply Ext.drewN | (refine Ext.trans ?_ (by assumption)))))
  have p3 := o3.r (Nat.le_refl _)
  go_wp2_with fail
  refine (toPointS_any _ _ _ _ (hp1.ext (by (repeat (first | exact Ext.refl _ | assumption | apply Ext.alloc | apply Ext.drew | apply Ext.drewN | (refine Ext.trans ?_ (by assumption)))))) hn1).mono ?_
  rintro e w4 ⟨S1, rfl, o4, ex4⟩
  clear fHB3
  have fHB4 := HB.out w4 (by (repeat (first | exact Ext.refl _ | assumption | apply Ext.alloc | apply Ext.drew | apply Ext.drewN | (refine Ext.trans ?_ (by assumption)))))
  have p4 := o4.r (Nat.le_refl _)
  go_wp2_with fail
  refine (sCountIn_any _ _ _ _ _ _ _ (p3.ext (by (repeat (first | exact Ext.refl _ | assumption | apply Ext.alloc | apply Ext.drew | apply Ext.drewN | (refine Ext.trans ?_ (by assumption)))))) (p4.ext (by (repeat (first | exact Ext.refl _ | assumption | apply Ext.alloc | apply Ext.drew | apply Ext.drewN | (refine Ext.trans ?_ (by assumption)))))) hn0 hn1).mono ?_
  rintro e w5 ⟨rfl, ex5⟩
  clear fHB4
  have fHB5 := HB.out w5 (by (repeat (first | exact Ext.refl _ | assumption | apply Ext.alloc | apply Ext.drew | apply Ext.drewN | (refine Ext.trans ?_ (by assumption)))))
  go_wp2_with fail
  refine (toRoom_any _ _ _ _ (hp0.ext (by (repeat (first | exact Ext.refl _ | assumption | apply Ext.alloc | apply Ext.drew | apply Ext.drewN | (refine Ext.trans ?_ (by assumption)))))) hn0).mono ?_
  rintro e w6 ⟨B0, rfl, o6, ex6⟩
  clear fHB5
  have fHB6 := HB.out w6 (by (repeat (first | exact Ext.refl _ | assumption | apply Ext.alloc | apply Ext.drew | apply Ext.drewN | (refine Ext.trans ?_ (by assumption)))))
  have p6 := o6.r (Nat.le_refl _)
  have HX0 : Hid (∀ w', Ext (w6.alloc (.cells #[.slice B0 l0.length l0.length] 29)) w' → w'.cell? ⟨w6.heap.size, 0, none⟩ = some (.slice B0 l0.length l0.length) ∧ w6.heap.size < w'.heap.size) := fun w' hx => by
    and_intros <;> (first | (have hz := hx.size; simp at hz; omega) | ((first | rw [hx.cells _ _ (by first | (simp; done) | (simp; omega))] | rw [hx.frozens _ _ (by first | (simp; done) | (simp; omega))]); (first | (simp [go_sem]; done) | (simp [go_sem, World.cell?_alloc_past]; done) | (simp [go_sem, World.frozen?]; done))))
  go_wp2_with fail
  refine (toPointS_any _ _ _ _ (hp1.ext (by (repeat (first | exact Ext.refl _ | assumption | apply Ext.alloc | apply Ext.drew | apply Ext.drewN | (refine Ext.trans ?_ (by assumption)))))) hn1).mono ?_
  rintro e w7 ⟨B1, rfl, o7, ex7⟩
  clear fHB6
  have fHB7 := HB.out w7 (by (repeat (first | exact Ext.refl _ | assumption | apply Ext.alloc | apply Ext.drew | apply Ext.drewN | (refine Ext.trans ?_ (by assumption)))))
  have fHX07 := HX0.out w7 (by (repeat (first | exact Ext.refl _ | assumption | apply Ext.alloc | apply Ext.drew | apply Ext.drewN | (refine Ext.trans ?_ (by assumption)))))
  have p7 := o7.r (Nat.le_refl _)
  go_wp2_with fail
  refine (CountIn_any _ _ _ _ _ _ _ (p6.ext (by (repeat (first | exact Ext.refl _ | assumption | apply Ext.alloc | apply Ext.drew | apply Ext.drewN | (refine Ext.trans ?_ (by assumption)))))) (p7.ext (by (repeat (first | exact Ext.refl _ | assumption | apply Ext.alloc | apply Ext.drew | apply Ext.drewN | (refine Ext.trans ?_ (by assumption)))))) hn0 hn1).mono ?_
  rintro e w8 ⟨rfl, ex8⟩
  clear fHB7
  clear fHX07
  have fHB8 := HB.out w8 (by (repeat (first | exact Ext.refl _ | assumption | apply Ext.alloc | apply Ext.drew | apply Ext.drewN | (refine Ext.trans ?_ (by assumption)))))
  have fHX08 := HX0.out w8 (by (repeat (first | exact Ext.refl _ | assumption | apply Ext.alloc | apply Ext.drew | apply Ext.drewN | (refine Ext.trans ?_ (by assumption)))))
  go_wp2
  refine wp_flow (by kernel_rfl) (by kernel_rfl) (fun u => ⟨#[_, _, _, _, _, _, _, _, _, _, _, _, _, _, _, _, _, _, _, _, _, _, _, _, _, _, _, _, _, _, _, _, _, _, _, u 0, u 1, u 2, u 3, u 4, _, _, _, _, _], _⟩) (fun i => List.getD [_, _, _, _, _] i undef) [is ?v34_0, is ?v34_1, (IsRoom l0), is ?v34_3, is ?v34_4] (fun w' => w'.cell? ⟨w.heap.size, 0, none⟩ = some (.slice A0 l0.length c0) ∧ w.heap.size < w'.heap.size ∧ w'.cell? ⟨w6.heap.size, 0, none⟩ = some (.slice B0 l0.length l0.length) ∧ w6.heap.size < w'.heap.size) _ rfl ?hC34 ?hs34 ?hV34 ?fin34
  case hC34 => exact fun w' hx => (by have hq : Ext _ w' := hx; have hf0 := HB.out w' (by (repeat (first | exact Ext.refl _ | assumption | apply Ext.alloc | apply Ext.drew | apply Ext.drewN | (refine Ext.trans ?_ (by assumption))))); have hf1 := HX0.out w' (by (repeat (first | exact Ext.refl _ | assumption | apply Ext.alloc | apply Ext.drew | apply Ext.drewN | (refine Ext.trans ?_ (by assumption))))); and_intros <;> first | exact hf0 | exact hf0.1 | exact hf0.2.1 | exact hf0.2.2.1 | exact hf0.2.2.2.1 | exact hf0.2.2.2.2.1 | exact hf0.2.2.2.2.2.1 | exact hf0.2.2.2.2.2.2.1 | exact hf0.2.2.2.2.2.2.2.1 | exact hf0.2.2.2.2.2.2.2.2.1 | exact hf0.2.2.2.2.2.2.2.2.2.1 | exact hf0.2.2.2.2.2.2.2.2.2.2.1 | exact hf0.2.2.2.2.2.2.2.2.2.2.2.1 | exact hf0.2.2.2.2.2.2.2.2.2.2.2.2.1 | exact hf0.2.2.2.2.2.2.2.2.2.2.2.2.2.1 | exact hf0.2 | exact hf0.2.2 | exact hf0.2.2.2 | exact hf0.2.2.2.2 | exact hf0.2.2.2.2.2 | exact hf0.2.2.2.2.2.2 | exact hf0.2.2.2.2.2.2.2 | exact hf0.2.2.2.2.2.2.2.2 | exact hf0.2.2.2.2.2.2.2.2.2 | exact hf0.2.2.2.2.2.2.2.2.2.2 | exact hf0.2.2.2.2.2.2.2.2.2.2.2 | exact hf0.2.2.2.2.2.2.2.2.2.2.2.2 | exact hf0.2.2.2.2.2.2.2.2.2.2.2.2.2 | exact hf1 | exact hf1.1 | exact hf1.2.1 | exact hf1.2.2.1 | exact hf1.2.2.2.1 | exact hf1.2.2.2.2.1 | exact hf1.2.2.2.2.2.1 | exact hf1.2.2.2.2.2.2.1 | exact hf1.2.2.2.2.2.2.2.1 | exact hf1.2.2.2.2.2.2.2.2.1 | exact hf1.2.2.2.2.2.2.2.2.2.1 | exact hf1.2.2.2.2.2.2.2.2.2.2.1 | exact hf1.2.2.2.2.2.2.2.2.2.2.2.1 | exact hf1.2.2.2.2.2.2.2.2.2.2.2.2.1 | exact hf1.2.2.2.2.2.2.2.2.2.2.2.2.2.1 | exact hf1.2 | exact hf1.2.2 | exact hf1.2.2.2 | exact hf1.2.2.2.2 | exact hf1.2.2.2.2.2 | exact hf1.2.2.2.2.2.2 | exact hf1.2.2.2.2.2.2.2 | exact hf1.2.2.2.2.2.2.2.2 | exact hf1.2.2.2.2.2.2.2.2.2 | exact hf1.2.2.2.2.2.2.2.2.2.2 | exact hf1.2.2.2.2.2.2.2.2.2.2.2 | exact hf1.2.2.2.2.2.2.2.2.2.2.2.2 | exact hf1.2.2.2.2.2.2.2.2.2.2.2.2.2)
  case hs34 =>
    repeat' (first
      | exact FSteps.nil
      | refine FSteps.cons ?_ ?_
      | (refine FStep.off_ _ _ _ rfl rfl ?_ (fun _ => rfl) ?_; (focus (intro u w hd; simp [vOf, is, Region.binds] at hd; simp [hd])); (intro w'; exact rfl); done)
      | ((first
          | refine FStep.plain rfl ?_
          | (refine FStep.on_ _ _ _ rfl rfl ?_ ?_; (focus (intro u w hd; simp [vOf, is, Region.binds] at hd; simp [hd]))))
         intro u w hW hC hd K hK
         (try simp [vOf, is, Region.binds] at hd)
         simp only [upd, Nat.reduceEqDiff, if_true, if_false] at hK
         (try simp only [hd] at hK)
         go_simp
         (first
           | (refine hK _ _ ?_ ?_; (first | exact rfl); (repeat (first | exact Ext.refl _ | assumption | apply Ext.alloc | apply Ext.drew | apply Ext.drewN | (refine Ext.trans ?_ (by assumption)))))
           | (go_at_call 23; refine (toRoom_is _ _ _ _ (hp0.ext (by (repeat (first | exact Ext.refl _ | assumption | apply Ext.alloc | apply Ext.drew | apply Ext.drewN | (refine Ext.trans ?_ (by assumption)))))) hn0).mono ?_; rintro e w1 ⟨v, rfl, hv, hb⟩; (try go_simp); refine hK _ _ ?_ ?_; exact hv; (repeat (first | exact Ext.refl _ | assumption | apply Ext.alloc | apply Ext.drew | apply Ext.drewN | (refine Ext.trans ?_ (by assumption)))))
           | (go_at_call 25; refine (eqRoom_is (l := l0) ⟨_, _, rfl, p6.ext (by (repeat (first | exact Ext.refl _ | assumption | apply Ext.alloc | apply Ext.drew | apply Ext.drewN | (refine Ext.trans ?_ (by assumption)))))⟩ (by first | exact hd.2 | exact hd.1 | exact hd) hn0).mono ?_; rintro e w1 ⟨rfl, hb⟩; (try go_simp); refine hK _ _ ?_ ?_; (first | exact rfl); (repeat (first | exact Ext.refl _ | assumption | apply Ext.alloc | apply Ext.drew | apply Ext.drewN | (refine Ext.trans ?_ (by assumption))))))))
  case hV34 => (simp only [List.forall_mem_cons]; simp [stable_is, IsRoom_stable])
  case fin34 =>
    intro u w2 hW2 hC2 hd
    simp only [AllV, is] at hd
    have hs2 := hd.2.2.1
    simp only [hd]
    clear hd
    obtain ⟨ws9, rfl⟩ : ∃ ws : World, ws = w2 := ⟨_, rfl⟩
    have xs9 := hW2
    clear hW2 hC2 hs2
    clear fHB8
    clear fHX08
    have fHB9 := HB.out ws9 (by (repeat (first | exact Ext.refl _ | assumption | apply Ext.alloc | apply Ext.drew | apply Ext.drewN | (refine Ext.trans ?_ (by assumption)))))
    have fHX09 := HX0.out ws9 (by (repeat (first | exact Ext.refl _ | assumption | apply Ext.alloc | apply Ext.drew | apply Ext.drewN | (refine Ext.trans ?_ (by assumption)))))
    go_wp2_with fail
    refine (toPointS_any _ _ _ _ (hp1.ext (by (repeat (first | exact Ext.refl _ | assumption | apply Ext.alloc | apply Ext.drew | apply Ext.drewN | (refine Ext.trans ?_ (by assumption)))))) hn1).mono ?_
    rintro e w10 ⟨S1', rfl, o10, ex10⟩
    clear fHB9
    clear fHX09
    have fHB10 := HB.out w10 (by (repeat (first | exact Ext.refl _ | assumption | apply Ext.alloc | apply Ext.drew | apply Ext.drewN | (refine Ext.trans ?_ (by assumption)))))
    have fHX010 := HX0.out w10 (by (repeat (first | exact Ext.refl _ | assumption | apply Ext.alloc | apply Ext.drew | apply Ext.drewN | (refine Ext.trans ?_ (by assumption)))))
    have p10 := o10.r (Nat.le_refl _)
    go_wp2_with fail
    refine (eqPointS_same _ _ _ _ _ _ (p7.ext (by (repeat (first | exact Ext.refl _ | assumption | apply Ext.alloc | apply Ext.drew | apply Ext.drewN | (refine Ext.trans ?_ (by assumption)))))) (p10.ext (by (repeat (first | exact Ext.refl _ | assumption | apply Ext.alloc | apply Ext.drew | apply Ext.drewN | (refine Ext.trans ?_ (by assumption)))))) hn1).mono ?_
    rintro e w11 ⟨rfl, ex11⟩
    clear fHB10
    clear fHX010
    have fHB11 := HB.out w11 (by (repeat (first | exact Ext.refl _ | assumption | apply Ext.alloc | apply Ext.drew | apply Ext.drewN | (refine Ext.trans ?_ (by assumption)))))
    have fHX011 := HX0.out w11 (by (repeat (first | exact Ext.refl _ | assumption | apply Ext.alloc | apply Ext.drew | apply Ext.drewN | (refine Ext.trans ?_ (by assumption)))))
    go_wp2
    go_ret
    exact ⟨rfl, Ext.below (by (repeat (first | exact Ext.refl _ | assumption | apply Ext.alloc | apply Ext.drew | apply Ext.drewN | (refine Ext.trans ?_ (by assumption)))))⟩

end Go.Proofs.Ytngapnmegembaaa
