/- The walk of FnExactRoomText. -/
import Derived.Test.YtkdhgngpapfkdaaDoorRTextI
import Derived.Test.YtkdhgngpapfkdaaDoorRoomLaw
namespace Go.Proofs.YtkdhgngpapfkdaaDoor
open Go.RowKit

set_option maxRecDepth 100000 in
set_option maxHeartbeats 1600000 in
theorem roomText_walk (A : Option Addr) (l : List (Int × Int)) (c : Nat) (w : World) (hm : l.length ≤ maxLen) (hp : RPts w A l) (htab : Lib.TabIs Tryd.prog w "internal/strconv.uint64pow10" .u64 Lib.pow10Tab) :
    Calls Tryd.prog 8 #[.agg #[.slice A l.length c]] w fun e w' => e = .returned (.bool true) ∧ Below w.heap.size w w' := by
  have HTB := hide htab
  clear htab
  have HB : Hid (∀ w', Ext (w.alloc (.cells #[.slice A l.length c] 44)) w' → w'.cell? ⟨w.heap.size, 0, none⟩ = some (.slice A l.length c)) := fun w' hx => by
    and_intros <;> (((first | rw [hx.cells _ _ (by first | (simp; done) | (simp; omega))] | rw [hx.frozens _ _ (by first | (simp; done) | (simp; omega))]); (first | (simp [go_sem]; done) | (simp [go_sem, World.cell?_alloc_past]; done) | (simp [go_sem, World.frozen?]; done))))
  by_cases hbig : (1048576 : Int) < l.length
  · go_enter Tryd.func8, Tryd.ntmps8
    go_wp2_with (go_at_call 25; refine (szRoom_any _ _ _ _ hm).mono ?_; rw [if_pos hbig]; rintro e w1 ⟨rfl, hb⟩)
    go_ret
    exact ⟨rfl, Ext.below (by (repeat (first | exact Ext.refl _ | assumption | apply Ext.alloc | apply Ext.drew | apply Ext.drewN | (refine Ext.trans ?_ (by assumption)))))⟩
  · have hn : l.length ≤ 1048576 := by omega
    go_enter Tryd.func8, Tryd.ntmps8
    go_wp2_with fail
    refine (szRoom_any _ _ _ _ hm).mono ?_
    rw [if_neg (by omega)]
    rintro e w1 ⟨rfl, x1⟩
    have k1 := HB.out w1 (by (repeat (first | exact Ext.refl _ | assumption | apply Ext.alloc | apply Ext.drew | apply Ext.drewN | (refine Ext.trans ?_ (by assumption)))))
    go_wp2_with fail
    refine (toRoom_any _ _ _ _ (hp.ext (by (repeat (first | exact Ext.refl _ | assumption | apply Ext.alloc | apply Ext.drew | apply Ext.drewN | (refine Ext.trans ?_ (by assumption)))))) hn).mono ?_
    rintro e w2 ⟨A1, rfl, o1, x2⟩
    have k2 := HB.out w2 (by (repeat (first | exact Ext.refl _ | assumption | apply Ext.alloc | apply Ext.drew | apply Ext.drewN | (refine Ext.trans ?_ (by assumption)))))
    go_wp2_with fail
    refine (sRoomText_any _ _ _ _ (o1.r (Nat.le_refl _)) hn).mono ?_
    rintro e w3 ⟨rfl, x3⟩
    have k3 := HB.out w3 (by (repeat (first | exact Ext.refl _ | assumption | apply Ext.alloc | apply Ext.drew | apply Ext.drewN | (refine Ext.trans ?_ (by assumption)))))
    go_wp2_with fail
    refine (toRoom_any _ _ _ _ (hp.ext (by (repeat (first | exact Ext.refl _ | assumption | apply Ext.alloc | apply Ext.drew | apply Ext.drewN | (refine Ext.trans ?_ (by assumption)))))) hn).mono ?_
    rintro e w4 ⟨A2, rfl, o2, x4⟩
    have k4 := HB.out w4 (by (repeat (first | exact Ext.refl _ | assumption | apply Ext.alloc | apply Ext.drew | apply Ext.drewN | (refine Ext.trans ?_ (by assumption)))))
    have r2 := o2.r (Nat.le_refl _)
    go_wp2_with fail
    refine (RoomText_any _ _ _ _ (r2.ext (by (repeat (first | exact Ext.refl _ | assumption | apply Ext.alloc | apply Ext.drew | apply Ext.drewN | (refine Ext.trans ?_ (by assumption)))))) hn (tab_ext gTab HTB.out (by (repeat (first | exact Ext.refl _ | assumption | apply Ext.alloc | apply Ext.drew | apply Ext.drewN | (refine Ext.trans ?_ (by assumption))))))).mono ?_
    rintro e w5 ⟨rfl, x5⟩
    have k5 := HB.out w5 (by (repeat (first | exact Ext.refl _ | assumption | apply Ext.alloc | apply Ext.drew | apply Ext.drewN | (refine Ext.trans ?_ (by assumption)))))
    have k6 : w5.cell? ⟨w4.heap.size, 0, none⟩ = some (.slice A2 l.length l.length) := (x5.cells _ _ (by simp)).trans (by simp [go_sem])
    have k7 : w4.heap.size < w5.heap.size := by have := x5.size; simp at this; omega
    have k8 : w.heap.size < w5.heap.size := by have : Ext (w.alloc (.cells #[.slice A l.length c] 44)) w5 := by (repeat (first | exact Ext.refl _ | assumption | apply Ext.alloc | apply Ext.drew | apply Ext.drewN | (refine Ext.trans ?_ (by assumption))))
                                               have := this.size; simp at this; omega
    have r5 : RPts w5 A2 l := r2.ext (by (repeat (first | exact Ext.refl _ | assumption | apply Ext.alloc | apply Ext.drew | apply Ext.drewN | (refine Ext.trans ?_ (by assumption)))))
    have p5 : RPts w5 A l := hp.ext (by (repeat (first | exact Ext.refl _ | assumption | apply Ext.alloc | apply Ext.drew | apply Ext.drewN | (refine Ext.trans ?_ (by assumption)))))
    clear k1 k2 k3 k4
    go_wp2
    refine wp_flow (by kernel_rfl) (by kernel_rfl) (fun u => ⟨#[_, _, _, _, _, _, _, _, _, _, _, _, _, _, _, _, _, _, _, _, _, _, u 0, u 1, u 2, u 3, u 4], _⟩) (fun i => List.getD [_, _, _, _, _] i undef) [is ?v30_0, is ?v30_1, (IsRoom l), is ?v30_3, is ?v30_4] (fun w' => w'.cell? ⟨w.heap.size, 0, none⟩ = some (.slice A l.length c) ∧ w'.cell? ⟨w4.heap.size, 0, none⟩ = some (.slice A2 l.length l.length)) _ rfl ?hC30 ?hs30 ?hV30 ?fin30
    case hC30 => (intro w' hx; and_intros <;> (first | (refine (Eq.trans (hx.cells _ _ ?_) ?_) <;> first | assumption | omega | (simp; done) | (simp; omega) | (simp [go_sem, World.cell?_alloc_past, *]; done)) | (have hz := hx.size; first | omega | (simp at hz; omega))))
    case hs30 =>
      repeat' (first
        | exact FSteps.nil
        | refine FSteps.cons ?_ ?_
        | (refine FStep.off_ _ _ _ rfl rfl ?_ (fun _ => rfl) ?_; (focus (intro u w hd; simp [vOf, is, Region.binds] at hd; simp [hd])); (intro w'; exact rfl); done)
        | ((first
            | refine FStep.plain rfl ?_
            | (refine FStep.on_ _ _ _ rfl rfl ?_ ?_; (focus (intro u w hd; simp [vOf, is, Region.binds] at hd; simp [hd]))))
           intro u w hW hC hd K hK
           (try simp [vOf, is, Region.binds] at hd)
           simp only [upd, Nat.reduceEqDiff, if_true, if_false] at hK
           (try simp only [hd] at hK)
           go_simp
           (first
             | (refine hK _ _ ?_ ?_; (first | exact rfl); (repeat (first | exact Ext.refl _ | assumption | apply Ext.alloc | apply Ext.drew | apply Ext.drewN | (refine Ext.trans ?_ (by assumption)))))
             | (go_at_call 27; refine (toRoom_is _ _ _ _ (p5.ext (by (repeat (first | exact Ext.refl _ | assumption | apply Ext.alloc | apply Ext.drew | apply Ext.drewN | (refine Ext.trans ?_ (by assumption)))))) hn).mono ?_; rintro e w1 ⟨v, rfl, hv, hb⟩; (try go_simp); refine hK _ _ ?_ ?_; exact hv; (repeat (first | exact Ext.refl _ | assumption | apply Ext.alloc | apply Ext.drew | apply Ext.drewN | (refine Ext.trans ?_ (by assumption)))))
             | (go_at_call 29; refine (eqRoom_is (l := l) ⟨_, _, rfl, r5.ext (by (repeat (first | exact Ext.refl _ | assumption | apply Ext.alloc | apply Ext.drew | apply Ext.drewN | (refine Ext.trans ?_ (by assumption)))))⟩ (by first | exact hd.2 | exact hd.1 | exact hd) hn).mono ?_; rintro e w1 ⟨rfl, hb⟩; (try go_simp); refine hK _ _ ?_ ?_; (first | exact rfl); (repeat (first | exact Ext.refl _ | assumption | apply Ext.alloc | apply Ext.drew | apply Ext.drewN | (refine Ext.trans ?_ (by assumption))))))))
    case hV30 => (simp only [List.forall_mem_cons]; simp [stable_is, IsRoom_stable])
    case fin30 =>
      intro u w2 hW2 hC2 hd
      simp only [AllV, is] at hd
      have hs2 := hd.2.2.1
      simp only [hd]
      clear hd
      go_wp2
      go_ret
      exact ⟨rfl, Ext.below (by (repeat (first | exact Ext.refl _ | assumption | apply Ext.alloc | apply Ext.drew | apply Ext.drewN | (refine Ext.trans ?_ (by assumption)))))⟩

end Go.Proofs.YtkdhgngpapfkdaaDoor
