/- The walk of FnExactIsOnWall. -/
import Derived.Test.YtlghppkifccakaaMeet
namespace Go.Proofs.Ytlghppkifccakaa
open Go.RowKit

set_option maxRecDepth 100000 in
set_option maxHeartbeats 800000 in
theorem isOnWall_walk (ax ay bx by_ cx cy : Int) (w : World) : Calls Try.prog 11 #[.agg #[.int .i64 ax, .int .i64 ay, .int .i64 bx, .int .i64 by_], .agg #[.int .i64 cx, .int .i64 cy]] w fun e w' => e = .returned (.bool true) ∧ Below w.heap.size w w' := by
  have HB : Hid (∀ w', Ext ((w.alloc (.cells #[.int .i64 ax, .int .i64 ay, .int .i64 bx, .int .i64 by_] 25)).alloc (.cells #[.int .i64 cx, .int .i64 cy] 23)) w' → w'.cell? ⟨w.heap.size, 0, none⟩ = some (.int .i64 ax) ∧ w'.cell? ⟨w.heap.size, 1, none⟩ = some (.int .i64 ay) ∧ w'.cell? ⟨w.heap.size, 2, none⟩ = some (.int .i64 bx) ∧ w'.cell? ⟨w.heap.size, 3, none⟩ = some (.int .i64 by_) ∧ w'.cell? ⟨w.heap.size + 1, 0, none⟩ = some (.int .i64 cx) ∧ w'.cell? ⟨w.heap.size + 1, 1, none⟩ = some (.int .i64 cy)) := fun w' hx => by
    and_intros <;> (rw [hx.cells _ _ (by first | (simp; done) | (simp; omega))]; first | (simp [go_sem]; done) | (simp [go_sem, World.cell?_alloc_past]; done))
  go_enter Try.func11, Try.ntmps11
  go_wp2
  refine wp_flow (by kernel_rfl) (by kernel_rfl) (fun u => ⟨#[_, _, _, _, _, u 5, _, u 0, u 1, u 2, u 3, u 4, _, _, _, _, _, _, _, _], _⟩) (fun i => List.getD [_, _, _, _, _, _] i undef) [is ?v9_0, is ?v9_1, is ?v9_2, is ?v9_3, is ?v9_4, is ?v9_5] (fun w' => w'.cell? ⟨w.heap.size, 0, none⟩ = some (.int .i64 ax) ∧ w'.cell? ⟨w.heap.size, 1, none⟩ = some (.int .i64 ay) ∧ w'.cell? ⟨w.heap.size, 2, none⟩ = some (.int .i64 bx) ∧ w'.cell? ⟨w.heap.size, 3, none⟩ = some (.int .i64 by_) ∧ w'.cell? ⟨w.heap.size + 1, 0, none⟩ = some (.int .i64 cx) ∧ w'.cell? ⟨w.heap.size + 1, 1, none⟩ = some (.int .i64 cy)) _ rfl ?hC9 ?hs9 ?hV9 ?fin9
  case hC9 => exact HB.out
  case hs9 =>
    repeat' (first
      | exact FSteps.nil
      | refine FSteps.cons ?_ ?_
      | (refine FStep.off_ _ _ _ rfl rfl ?_ (fun _ => rfl) ?_; (focus (intro u w hd; simp [vOf, is, Region.binds] at hd; simp [hd])); (intro w'; exact rfl); done)
      | ((first
          | refine FStep.plain rfl ?_
          | (refine FStep.on_ _ _ _ rfl rfl ?_ ?_; (focus (intro u w hd; simp [vOf, is, Region.binds] at hd; simp [hd]))))
         intro u w hW hC hd K hK
         (try simp [vOf, is, Region.binds] at hd)
         simp only [upd, Nat.reduceEqDiff, if_true, if_false] at hK
         (try simp only [hd] at hK)
         go_simp
         (first
           | (refine hK _ _ ?_ ?_; (first | exact rfl); (repeat (first | exact Ext.refl _ | assumption | apply Ext.alloc | apply Ext.drew | apply Ext.drewN | (refine Ext.trans ?_ (by assumption)))))
           | (go_at_call 13; refine (toWall_any _ _ _ _ _).mono ?_; rintro e w1 ⟨rfl, hb⟩; (try go_simp); refine hK _ _ ?_ ?_; (first | exact rfl); (repeat (first | exact Ext.refl _ | assumption | apply Ext.alloc | apply Ext.drew | apply Ext.drewN | (refine Ext.trans ?_ (by assumption)))))
           | (go_at_call 20; refine (toPoint_any _ _ _).mono ?_; rintro e w1 ⟨rfl, hb⟩; (try go_simp); refine hK _ _ ?_ ?_; (first | exact rfl); (repeat (first | exact Ext.refl _ | assumption | apply Ext.alloc | apply Ext.drew | apply Ext.drewN | (refine Ext.trans ?_ (by assumption)))))
           | (go_at_call 42; refine (sIsOnWall_any _ _ _ _ _ _ _).mono ?_; rintro e w1 ⟨rfl, hb⟩; (try go_simp); refine hK _ _ ?_ ?_; (first | exact rfl); (repeat (first | exact Ext.refl _ | assumption | apply Ext.alloc | apply Ext.drew | apply Ext.drewN | (refine Ext.trans ?_ (by assumption))))))))
  case hV9 => (simp only [List.forall_mem_cons]; simp [stable_is])
  case fin9 =>
    intro u w2 hW2 hC2 hd
    simp only [AllV, is] at hd
    simp only [hd]
    clear hd
    go_wp2
    refine wp_flow (by kernel_rfl) (by kernel_rfl) (fun u => ⟨#[_, _, _, _, _, _, u 5, _, _, _, _, _, u 0, u 1, u 2, u 3, u 4, _, _, _], _⟩) (fun i => List.getD [_, _, _, _, _, _] i undef) [is ?v10_0, is ?v10_1, is ?v10_2, is ?v10_3, is ?v10_4, is ?v10_5] (fun w' => w'.cell? ⟨w.heap.size, 0, none⟩ = some (.int .i64 ax) ∧ w'.cell? ⟨w.heap.size, 1, none⟩ = some (.int .i64 ay) ∧ w'.cell? ⟨w.heap.size, 2, none⟩ = some (.int .i64 bx) ∧ w'.cell? ⟨w.heap.size, 3, none⟩ = some (.int .i64 by_) ∧ w'.cell? ⟨w.heap.size + 1, 0, none⟩ = some (.int .i64 cx) ∧ w'.cell? ⟨w.heap.size + 1, 1, none⟩ = some (.int .i64 cy)) _ rfl ?hC10 ?hs10 ?hV10 ?fin10
    case hC10 => exact fun w' hx => HB.out w' (Ext.trans hW2 hx)
    case hs10 =>
      repeat' (first
        | exact FSteps.nil
        | refine FSteps.cons ?_ ?_
        | (refine FStep.off_ _ _ _ rfl rfl ?_ (fun _ => rfl) ?_; (focus (intro u w hd; simp [vOf, is, Region.binds] at hd; simp [hd])); (intro w'; exact rfl); done)
        | ((first
            | refine FStep.plain rfl ?_
            | (refine FStep.on_ _ _ _ rfl rfl ?_ ?_; (focus (intro u w hd; simp [vOf, is, Region.binds] at hd; simp [hd]))))
           intro u w hW hC hd K hK
           (try simp [vOf, is, Region.binds] at hd)
           simp only [upd, Nat.reduceEqDiff, if_true, if_false] at hK
           (try simp only [hd] at hK)
           go_simp
           (first
             | (refine hK _ _ ?_ ?_; (first | exact rfl); (repeat (first | exact Ext.refl _ | assumption | apply Ext.alloc | apply Ext.drew | apply Ext.drewN | (refine Ext.trans ?_ (by assumption)))))
             | (go_at_call 13; refine (toWall_any _ _ _ _ _).mono ?_; rintro e w1 ⟨rfl, hb⟩; (try go_simp); refine hK _ _ ?_ ?_; (first | exact rfl); (repeat (first | exact Ext.refl _ | assumption | apply Ext.alloc | apply Ext.drew | apply Ext.drewN | (refine Ext.trans ?_ (by assumption)))))
             | (go_at_call 20; refine (toPoint_any _ _ _).mono ?_; rintro e w1 ⟨rfl, hb⟩; (try go_simp); refine hK _ _ ?_ ?_; (first | exact rfl); (repeat (first | exact Ext.refl _ | assumption | apply Ext.alloc | apply Ext.drew | apply Ext.drewN | (refine Ext.trans ?_ (by assumption)))))
             | (go_at_call 41; refine (IsOnWall_any _ _ _ _ _ _ _).mono ?_; rintro e w1 ⟨rfl, hb⟩; (try go_simp); refine hK _ _ ?_ ?_; (first | exact rfl); (repeat (first | exact Ext.refl _ | assumption | apply Ext.alloc | apply Ext.drew | apply Ext.drewN | (refine Ext.trans ?_ (by assumption))))))))
    case hV10 => (simp only [List.forall_mem_cons]; simp [stable_is])
    case fin10 =>
      intro u w2 hW2 hC2 hd
      simp only [AllV, is] at hd
      simp only [hd]
      clear hd
      go_wp2
      go_ret
      exact ⟨rfl, Ext.below (by (repeat (first | exact Ext.refl _ | assumption | apply Ext.alloc | apply Ext.drew | apply Ext.drewN | (refine Ext.trans ?_ (by assumption)))))⟩

end Go.Proofs.Ytlghppkifccakaa
