/- The walks of the laws FnExactTurnOf. -/
import Derived.Test.YtpiblmnhlgffdaaSPt
import Derived.Test.YtpiblmnhlgffdaaFlow
namespace Go.Proofs.Ytpiblmnhlgffdaa
open Go.RowKit

set_option maxRecDepth 100000 in
theorem turnOf_walk (x0 y0 x1 y1 x2 y2 : Int) (w : World) : Calls Try.prog 11 #[.agg #[.int .i64 x0, .int .i64 y0], .agg #[.int .i64 x1, .int .i64 y1], .agg #[.int .i64 x2, .int .i64 y2]] w fun e w' => e = .returned (.bool true) ∧ Below w.heap.size w w' := by
  have HB : Hid (∀ w', Ext (((w.alloc (.cells #[.int .i64 x0, .int .i64 y0] 24)).alloc (.cells #[.int .i64 x1, .int .i64 y1] 24)).alloc (.cells #[.int .i64 x2, .int .i64 y2] 24)) w' → w'.cell? ⟨w.heap.size, 0, none⟩ = some (.int .i64 x0) ∧ w'.cell? ⟨w.heap.size, 1, none⟩ = some (.int .i64 y0) ∧ w'.cell? ⟨w.heap.size + 1, 0, none⟩ = some (.int .i64 x1) ∧ w'.cell? ⟨w.heap.size + 1, 1, none⟩ = some (.int .i64 y1) ∧ w'.cell? ⟨w.heap.size + 1 + 1, 0, none⟩ = some (.int .i64 x2) ∧ w'.cell? ⟨w.heap.size + 1 + 1, 1, none⟩ = some (.int .i64 y2)) := fun w' hx => by
    and_intros <;> (rw [hx.cells _ _ (by first | (simp; done) | (simp; omega))]; first | (simp [go_sem]; done) | (simp [go_sem, World.cell?_alloc_past]; done))
  go_enter Try.func11, Try.ntmps11
  go_wp2
  refine wp_flow (by kernel_rfl) (by kernel_rfl) (fun u => ⟨#[_, _, _, _, _, _, _, u 7, _, u 0, u 1, u 2, u 3, u 4, u 5, u 6, _, _, _, _, _, _, _, _, _, _], _⟩) (fun i => List.getD [_, _, _, _, _, _, _, _] i undef) [is ?v7_0, is ?v7_1, is ?v7_2, is ?v7_3, is ?v7_4, is ?v7_5, is ?v7_6, is ?v7_7] (fun w' => w'.cell? ⟨w.heap.size, 0, none⟩ = some (.int .i64 x0) ∧ w'.cell? ⟨w.heap.size, 1, none⟩ = some (.int .i64 y0) ∧ w'.cell? ⟨w.heap.size + 1, 0, none⟩ = some (.int .i64 x1) ∧ w'.cell? ⟨w.heap.size + 1, 1, none⟩ = some (.int .i64 y1) ∧ w'.cell? ⟨w.heap.size + 1 + 1, 0, none⟩ = some (.int .i64 x2) ∧ w'.cell? ⟨w.heap.size + 1 + 1, 1, none⟩ = some (.int .i64 y2)) _ rfl ?hC7 ?hs7 ?hV7 ?fin7
  case hC7 => exact HB.out
  case hs7 =>
    repeat' (first
      | exact FSteps.nil
      | refine FSteps.cons ?_ ?_
      | (refine FStep.off_ _ _ _ rfl rfl ?_ (fun _ => rfl) ?_; (focus (intro u w hd; simp [vOf, is, Region.binds] at hd; simp [hd])); (intro w'; exact rfl); done)
      | ((first
          | refine FStep.plain rfl ?_
          | (refine FStep.on_ _ _ _ rfl rfl ?_ ?_; (focus (intro u w hd; simp [vOf, is, Region.binds] at hd; simp [hd]))))
         intro u w hW hC hd K hK
         (try simp [vOf, is, Region.binds] at hd)
         simp only [upd, Nat.reduceEqDiff, if_true, if_false] at hK
         (try simp only [hd] at hK)
         go_simp
         (first
           | (refine hK _ _ ?_ ?_; (first | exact rfl); (repeat (first | exact Ext.refl _ | assumption | apply Ext.alloc | apply Ext.drew | apply Ext.drewN | (refine Ext.trans ?_ (by assumption)))))
           | (go_at_call 16; refine (toPoint_any _ _ _).mono ?_; rintro e w1 ⟨rfl, hb⟩; (try go_simp); refine hK _ _ ?_ ?_; (first | exact rfl); (repeat (first | exact Ext.refl _ | assumption | apply Ext.alloc | apply Ext.drew | apply Ext.drewN | (refine Ext.trans ?_ (by assumption)))))
           | (go_at_call 38; refine (sTurnOf_any _ _ _ _ _ _ _).mono ?_; rintro e w1 ⟨rfl, hb⟩; (try go_simp); refine hK _ _ ?_ ?_; (first | exact rfl); (repeat (first | exact Ext.refl _ | assumption | apply Ext.alloc | apply Ext.drew | apply Ext.drewN | (refine Ext.trans ?_ (by assumption))))))))
  case hV7 => (simp only [List.forall_mem_cons]; simp [stable_is])
  case fin7 =>
    intro u w2 hW2 hC2 hd
    simp only [AllV, is] at hd
    simp only [hd]
    clear hd
    go_wp2
    refine wp_flow (by kernel_rfl) (by kernel_rfl) (fun u => ⟨#[_, _, _, _, _, _, _, _, u 7, _, _, _, _, _, _, _, u 0, u 1, u 2, u 3, u 4, u 5, u 6, _, _, _], _⟩) (fun i => List.getD [_, _, _, _, _, _, _, _] i undef) [is ?v8_0, is ?v8_1, is ?v8_2, is ?v8_3, is ?v8_4, is ?v8_5, is ?v8_6, is ?v8_7] (fun w' => w'.cell? ⟨w.heap.size, 0, none⟩ = some (.int .i64 x0) ∧ w'.cell? ⟨w.heap.size, 1, none⟩ = some (.int .i64 y0) ∧ w'.cell? ⟨w.heap.size + 1, 0, none⟩ = some (.int .i64 x1) ∧ w'.cell? ⟨w.heap.size + 1, 1, none⟩ = some (.int .i64 y1) ∧ w'.cell? ⟨w.heap.size + 1 + 1, 0, none⟩ = some (.int .i64 x2) ∧ w'.cell? ⟨w.heap.size + 1 + 1, 1, none⟩ = some (.int .i64 y2)) _ rfl ?hC8 ?hs8 ?hV8 ?fin8
    case hC8 => exact fun w' hx => HB.out w' (Ext.trans hW2 hx)
    case hs8 =>
      repeat' (first
        | exact FSteps.nil
        | refine FSteps.cons ?_ ?_
        | (refine FStep.off_ _ _ _ rfl rfl ?_ (fun _ => rfl) ?_; (focus (intro u w hd; simp [vOf, is, Region.binds] at hd; simp [hd])); (intro w'; exact rfl); done)
        | ((first
            | refine FStep.plain rfl ?_
            | (refine FStep.on_ _ _ _ rfl rfl ?_ ?_; (focus (intro u w hd; simp [vOf, is, Region.binds] at hd; simp [hd]))))
           intro u w hW hC hd K hK
           (try simp [vOf, is, Region.binds] at hd)
           simp only [upd, Nat.reduceEqDiff, if_true, if_false] at hK
           (try simp only [hd] at hK)
           go_simp
           (first
             | (refine hK _ _ ?_ ?_; (first | exact rfl); (repeat (first | exact Ext.refl _ | assumption | apply Ext.alloc | apply Ext.drew | apply Ext.drewN | (refine Ext.trans ?_ (by assumption)))))
             | (go_at_call 16; refine (toPoint_any _ _ _).mono ?_; rintro e w1 ⟨rfl, hb⟩; (try go_simp); refine hK _ _ ?_ ?_; (first | exact rfl); (repeat (first | exact Ext.refl _ | assumption | apply Ext.alloc | apply Ext.drew | apply Ext.drewN | (refine Ext.trans ?_ (by assumption)))))
             | (go_at_call 39; refine (TurnOf_any _ _ _ _ _ _ _).mono ?_; rintro e w1 ⟨rfl, hb⟩; (try go_simp); refine hK _ _ ?_ ?_; (first | exact rfl); (repeat (first | exact Ext.refl _ | assumption | apply Ext.alloc | apply Ext.drew | apply Ext.drewN | (refine Ext.trans ?_ (by assumption))))))))
    case hV8 => (simp only [List.forall_mem_cons]; simp [stable_is])
    case fin8 =>
      intro u w2 hW2 hC2 hd
      simp only [AllV, is] at hd
      simp only [hd]
      clear hd
      go_wp2
      go_ret
      exact ⟨rfl, Ext.below (by (repeat (first | exact Ext.refl _ | assumption | apply Ext.alloc | apply Ext.drew | apply Ext.drewN | (refine Ext.trans ?_ (by assumption)))))⟩

end Go.Proofs.Ytpiblmnhlgffdaa
