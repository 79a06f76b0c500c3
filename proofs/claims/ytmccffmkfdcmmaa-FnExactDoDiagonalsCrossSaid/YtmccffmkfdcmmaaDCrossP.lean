/-
  Contracts: diagonals that cross, in the program.
-/
import Derived.Test.YtmccffmkfdcmmaaDCrossV
namespace Go.Proofs.Ytmccffmkfdcmmaa
open Go.RowKit


set_option maxRecDepth 100000 in
set_option maxHeartbeats 8000000 in
theorem DoDiagonalsCross_any (A B D : Option Addr) (l : List (Int × Int)) (a b : List Int) (c ca cb : Nat) (w : World) (hp : RPts w A l) (ha : RInts w B a) (hb : RInts w D b) (hn : l.length ≤ 1048576) :
    Calls Try.prog 29 #[.agg #[.slice A l.length c], .slice B a.length ca, .slice D b.length cb] w fun e w' => e = .returned (.bool (ddV l a b)) ∧ Ext w w' := by
  have HB : Hid (∀ w', Ext (w.alloc (.cells #[.slice A l.length c] 29)) w' → w'.cell? ⟨w.heap.size, 0, none⟩ = some (.slice A l.length c) ∧ w.heap.size < w'.heap.size) := fun w' hx => by
    and_intros <;> (first | (have hz := hx.size; simp at hz; omega) | ((first | rw [hx.cells _ _ (by first | (simp; done) | (simp; omega))] | rw [hx.frozens _ _ (by first | (simp; done) | (simp; omega))]); (first | (simp [go_sem]; done) | (simp [go_sem, World.cell?_alloc_past]; done) | (simp [go_sem, World.frozen?]; done))))
  have n1 := len_two a.length
  have n2 := len_two b.length
  cases e1 : (a.length == 2)
  · rw [e1, Bool.not_false] at n1
    have HV := hide (show ddV l a b = false by unfold ddV; rw [e1]; rfl)
    go_enter Try.func29, Try.ntmps29
    go_wp2
    refine wp_flow (by kernel_rfl) (by kernel_rfl) (fun u => ⟨#[_, _, _, _, _, _, _, u 0, u 1, u 2, u 3, u 4, u 5, u 6, u 7, u 8, u 9, u 10, u 11, u 12, u 13, u 14, u 15, u 16, u 17, u 18, u 19, u 20, u 21, u 22, u 23, u 24, u 25, u 26, u 27, u 28, u 29, _, _, _, _, _, _, _, _, _, _, _, _, _, _, _, _, _, _, _, _, _, _, _, _, _, _, _, _, _, _, _], _⟩) (fun i => List.getD [_, _, _, _, _, _, _, _, _, _, _, _, _, _, _, _, _, _, _, _, _, _, _, _, _, _, _, _, _, _] i undef) [is ?v1_0, is ?v1_1, is ?v1_2, is ?v1_3, is ?v1_4, is ?v1_5, is ?v1_6, is ?v1_7, is ?v1_8, is ?v1_9, is ?v1_10, is ?v1_11, is ?v1_12, is ?v1_13, is ?v1_14, is ?v1_15, is ?v1_16, is ?v1_17, is ?v1_18, is ?v1_19, is ?v1_20, is ?v1_21, is ?v1_22, is ?v1_23, is ?v1_24, is ?v1_25, is ?v1_26, is ?v1_27, is ?v1_28, is ?v1_29] (fun w' => w'.cell? ⟨w.heap.size, 0, none⟩ = some (.slice A l.length c) ∧ w.heap.size < w'.heap.size) _ rfl ?hC1 ?hs1 ?hV1 ?fin1
    case hC1 => exact fun w' hx => (by have hq : Ext _ w' := hx; have hf0 := HB.out w' (by (repeat (first | exact Ext.refl _ | assumption | apply Ext.alloc | apply Ext.drew | apply Ext.drewN | (refine Ext.trans ?_ (by assumption))))); and_intros <;> first | exact hf0 | exact hf0.1 | exact hf0.2.1 | exact hf0.2.2.1 | exact hf0.2.2.2.1 | exact hf0.2.2.2.2.1 | exact hf0.2.2.2.2.2.1 | exact hf0.2.2.2.2.2.2.1 | exact hf0.2.2.2.2.2.2.2.1 | exact hf0.2.2.2.2.2.2.2.2.1 | exact hf0.2.2.2.2.2.2.2.2.2.1 | exact hf0.2.2.2.2.2.2.2.2.2.2.1 | exact hf0.2.2.2.2.2.2.2.2.2.2.2.1 | exact hf0.2.2.2.2.2.2.2.2.2.2.2.2.1 | exact hf0.2.2.2.2.2.2.2.2.2.2.2.2.2.1 | exact hf0.2 | exact hf0.2.2 | exact hf0.2.2.2 | exact hf0.2.2.2.2 | exact hf0.2.2.2.2.2 | exact hf0.2.2.2.2.2.2 | exact hf0.2.2.2.2.2.2.2 | exact hf0.2.2.2.2.2.2.2.2 | exact hf0.2.2.2.2.2.2.2.2.2 | exact hf0.2.2.2.2.2.2.2.2.2.2 | exact hf0.2.2.2.2.2.2.2.2.2.2.2 | exact hf0.2.2.2.2.2.2.2.2.2.2.2.2 | exact hf0.2.2.2.2.2.2.2.2.2.2.2.2.2)
    case hs1 =>
      repeat' (first
        | exact FSteps.nil
        | refine FSteps.cons ?_ ?_
        | (refine FStep.off_ _ _ _ rfl rfl ?_ (fun _ => rfl) ?_; (focus (intro u w hd; simp [vOf, is, Region.binds] at hd; simp [hd])); (intro w'; exact rfl); done)
        | ((first
            | refine FStep.plain rfl ?_
            | (refine FStep.on_ _ _ _ rfl rfl ?_ ?_; (focus (intro u w hd; simp [vOf, is, Region.binds] at hd; simp [hd]))))
           intro u w hW hC hd K hK
           (try simp [vOf, is, Region.binds] at hd)
           simp only [upd, Nat.reduceEqDiff, if_true, if_false] at hK
           (try simp only [hd] at hK)
           go_simp
           (first
             | (refine hK _ _ ?_ ?_; (first | exact rfl); (repeat (first | exact Ext.refl _ | assumption | apply Ext.alloc | apply Ext.drew | apply Ext.drewN | (refine Ext.trans ?_ (by assumption))))))))
    case hV1 => (simp only [List.forall_mem_cons]; simp [stable_is])
    intro u w2 hW2 hC2 hd
    simp only [AllV, is] at hd
    simp only [hd]
    clear hd
    clear hC2
    go_wp2
    go_ret
    exact ⟨ret_bool (by rw [HV.out]), by (repeat (first | exact Ext.refl _ | assumption | apply Ext.alloc | apply Ext.drew | apply Ext.drewN | (refine Ext.trans ?_ (by assumption))))⟩
  · rw [e1, Bool.not_true] at n1
    cases e2 : (b.length == 2)
    · rw [e2, Bool.not_false] at n2
      have HV := hide (show ddV l a b = false by unfold ddV; rw [e1, e2]; rfl)
      go_enter Try.func29, Try.ntmps29
      go_wp2
      refine wp_flow (by kernel_rfl) (by kernel_rfl) (fun u => ⟨#[_, _, _, _, _, _, _, u 0, u 1, u 2, u 3, u 4, u 5, u 6, u 7, u 8, u 9, u 10, u 11, u 12, u 13, u 14, u 15, u 16, u 17, u 18, u 19, u 20, u 21, u 22, u 23, u 24, u 25, u 26, u 27, u 28, u 29, _, _, _, _, _, _, _, _, _, _, _, _, _, _, _, _, _, _, _, _, _, _, _, _, _, _, _, _, _, _, _], _⟩) (fun i => List.getD [_, _, _, _, _, _, _, _, _, _, _, _, _, _, _, _, _, _, _, _, _, _, _, _, _, _, _, _, _, _] i undef) [is ?v2_0, is ?v2_1, is ?v2_2, is ?v2_3, is ?v2_4, is ?v2_5, is ?v2_6, is ?v2_7, is ?v2_8, is ?v2_9, is ?v2_10, is ?v2_11, is ?v2_12, is ?v2_13, is ?v2_14, is ?v2_15, is ?v2_16, is ?v2_17, is ?v2_18, is ?v2_19, is ?v2_20, is ?v2_21, is ?v2_22, is ?v2_23, is ?v2_24, is ?v2_25, is ?v2_26, is ?v2_27, is ?v2_28, is ?v2_29] (fun w' => w'.cell? ⟨w.heap.size, 0, none⟩ = some (.slice A l.length c) ∧ w.heap.size < w'.heap.size) _ rfl ?hC2 ?hs2 ?hV2 ?fin2
      case hC2 => exact fun w' hx => (by have hq : Ext _ w' := hx; have hf0 := HB.out w' (by (repeat (first | exact Ext.refl _ | assumption | apply Ext.alloc | apply Ext.drew | apply Ext.drewN | (refine Ext.trans ?_ (by assumption))))); and_intros <;> first | exact hf0 | exact hf0.1 | exact hf0.2.1 | exact hf0.2.2.1 | exact hf0.2.2.2.1 | exact hf0.2.2.2.2.1 | exact hf0.2.2.2.2.2.1 | exact hf0.2.2.2.2.2.2.1 | exact hf0.2.2.2.2.2.2.2.1 | exact hf0.2.2.2.2.2.2.2.2.1 | exact hf0.2.2.2.2.2.2.2.2.2.1 | exact hf0.2.2.2.2.2.2.2.2.2.2.1 | exact hf0.2.2.2.2.2.2.2.2.2.2.2.1 | exact hf0.2.2.2.2.2.2.2.2.2.2.2.2.1 | exact hf0.2.2.2.2.2.2.2.2.2.2.2.2.2.1 | exact hf0.2 | exact hf0.2.2 | exact hf0.2.2.2 | exact hf0.2.2.2.2 | exact hf0.2.2.2.2.2 | exact hf0.2.2.2.2.2.2 | exact hf0.2.2.2.2.2.2.2 | exact hf0.2.2.2.2.2.2.2.2 | exact hf0.2.2.2.2.2.2.2.2.2 | exact hf0.2.2.2.2.2.2.2.2.2.2 | exact hf0.2.2.2.2.2.2.2.2.2.2.2 | exact hf0.2.2.2.2.2.2.2.2.2.2.2.2 | exact hf0.2.2.2.2.2.2.2.2.2.2.2.2.2)
      case hs2 =>
        repeat' (first
          | exact FSteps.nil
          | refine FSteps.cons ?_ ?_
          | (refine FStep.off_ _ _ _ rfl rfl ?_ (fun _ => rfl) ?_; (focus (intro u w hd; simp [vOf, is, Region.binds] at hd; simp [hd])); (intro w'; exact rfl); done)
          | ((first
              | refine FStep.plain rfl ?_
              | (refine FStep.on_ _ _ _ rfl rfl ?_ ?_; (focus (intro u w hd; simp [vOf, is, Region.binds] at hd; simp [hd]))))
             intro u w hW hC hd K hK
             (try simp [vOf, is, Region.binds] at hd)
             simp only [upd, Nat.reduceEqDiff, if_true, if_false] at hK
             (try simp only [hd] at hK)
             go_simp
             (first
               | (refine hK _ _ ?_ ?_; (first | exact rfl); (repeat (first | exact Ext.refl _ | assumption | apply Ext.alloc | apply Ext.drew | apply Ext.drewN | (refine Ext.trans ?_ (by assumption))))))))
      case hV2 => (simp only [List.forall_mem_cons]; simp [stable_is])
      intro u w2 hW2 hC2 hd
      simp only [AllV, is] at hd
      simp only [hd]
      clear hd
      clear hC2
      go_wp2
      go_ret
      exact ⟨ret_bool (by rw [HV.out]), by (repeat (first | exact Ext.refl _ | assumption | apply Ext.alloc | apply Ext.drew | apply Ext.drewN | (refine Ext.trans ?_ (by assumption))))⟩
    · rw [e2, Bool.not_true] at n2
      have l1 : a.length = 2 := by simpa using e1
      have l2 : b.length = 2 := by simpa using e2
      obtain ⟨ba, oa, rfl, hza, ha0⟩ := ha (by omega)
      obtain ⟨bb, ob, rfl, hzb, hb0⟩ := hb (by omega)
      have HA := hide (show ∀ w', Ext w w' → (w'.cell? ⟨ba, oa, none⟩ = some (.int .i64 (gi a 0)) ∧ w'.cell? ⟨ba, oa + 1, none⟩ = some (.int .i64 (gi a 1))) ∧ (w'.cell? ⟨bb, ob, none⟩ = some (.int .i64 (gi b 0)) ∧ w'.cell? ⟨bb, ob + 1, none⟩ = some (.int .i64 (gi b 1))) from fun w' hx => ⟨⟨(hx.cells _ _ hza).trans (ha0 0 (by omega)), (hx.cells _ _ hza).trans (ha0 1 (by omega))⟩, ⟨(hx.cells _ _ hzb).trans (hb0 0 (by omega)), (hx.cells _ _ hzb).trans (hb0 1 (by omega))⟩⟩)
      have q1 : (0 : Int) < (a.length : Int) := by omega
      have q2 : (1 : Int) < (a.length : Int) := by omega
      have q3 : (0 : Int) < (b.length : Int) := by omega
      have q4 : (1 : Int) < (b.length : Int) := by omega
      have q5 : 0 < a.length := by omega
      have q6 : 1 < a.length := by omega
      have q7 : a ≠ [] := fun e => by rw [e] at q5; simp at q5
      have q8 : 0 < b.length := by omega
      have q9 : 1 < b.length := by omega
      have q10 : b ≠ [] := fun e => by rw [e] at q8; simp at q8
      clear ha0 hb0 ha hb l1 l2
      cases d1 : diagB l (gi a 0) (gi a 1)
      · have HV := hide (show ddV l a b = false by unfold ddV; rw [e1, e2, d1]; rfl)
        clear e1 e2
        go_enter Try.func29, Try.ntmps29
        go_wp2
        refine wp_flow (by kernel_rfl) (by kernel_rfl) (fun u => ⟨#[_, _, _, _, _, _, _, u 0, u 1, u 2, u 3, u 4, u 5, u 6, u 7, u 8, u 9, u 10, u 11, u 12, u 13, u 14, u 15, u 16, u 17, u 18, u 19, u 20, u 21, u 22, u 23, u 24, u 25, u 26, u 27, u 28, u 29, _, _, _, _, _, _, _, _, _, _, _, _, _, _, _, _, _, _, _, _, _, _, _, _, _, _, _, _, _, _, _], _⟩) (fun i => List.getD [_, _, _, _, _, _, _, _, _, _, _, _, _, _, _, _, _, _, _, _, _, _, _, _, _, _, _, _, _, _] i undef) [is ?v3_0, is ?v3_1, is ?v3_2, is ?v3_3, is ?v3_4, is ?v3_5, is ?v3_6, is ?v3_7, is ?v3_8, is ?v3_9, is ?v3_10, is ?v3_11, is ?v3_12, is ?v3_13, is ?v3_14, is ?v3_15, is ?v3_16, is ?v3_17, is ?v3_18, is ?v3_19, is ?v3_20, is ?v3_21, is ?v3_22, is ?v3_23, is ?v3_24, is ?v3_25, is ?v3_26, is ?v3_27, is ?v3_28, is ?v3_29] (fun w' => w'.cell? ⟨w.heap.size, 0, none⟩ = some (.slice A l.length c) ∧ w.heap.size < w'.heap.size ∧ (w'.cell? ⟨ba, oa, none⟩ = some (.int .i64 (gi a 0)) ∧ w'.cell? ⟨ba, oa + 1, none⟩ = some (.int .i64 (gi a 1)))) _ rfl ?hC3 ?hs3 ?hV3 ?fin3
        case hC3 => exact fun w' hx => (by have hq : Ext _ w' := hx; have hf0 := HB.out w' (by (repeat (first | exact Ext.refl _ | assumption | apply Ext.alloc | apply Ext.drew | apply Ext.drewN | (refine Ext.trans ?_ (by assumption))))); and_intros <;> first | exact hf0 | exact hf0.1 | exact hf0.2.1 | exact hf0.2.2.1 | exact hf0.2.2.2.1 | exact hf0.2.2.2.2.1 | exact hf0.2.2.2.2.2.1 | exact hf0.2.2.2.2.2.2.1 | exact hf0.2.2.2.2.2.2.2.1 | exact hf0.2.2.2.2.2.2.2.2.1 | exact hf0.2.2.2.2.2.2.2.2.2.1 | exact hf0.2.2.2.2.2.2.2.2.2.2.1 | exact hf0.2.2.2.2.2.2.2.2.2.2.2.1 | exact hf0.2.2.2.2.2.2.2.2.2.2.2.2.1 | exact hf0.2.2.2.2.2.2.2.2.2.2.2.2.2.1 | exact hf0.2 | exact hf0.2.2 | exact hf0.2.2.2 | exact hf0.2.2.2.2 | exact hf0.2.2.2.2.2 | exact hf0.2.2.2.2.2.2 | exact hf0.2.2.2.2.2.2.2 | exact hf0.2.2.2.2.2.2.2.2 | exact hf0.2.2.2.2.2.2.2.2.2 | exact hf0.2.2.2.2.2.2.2.2.2.2 | exact hf0.2.2.2.2.2.2.2.2.2.2.2 | exact hf0.2.2.2.2.2.2.2.2.2.2.2.2 | exact hf0.2.2.2.2.2.2.2.2.2.2.2.2.2 | exact (HA.out w' (Ext.trans (by (repeat (first | exact Ext.refl _ | assumption | apply Ext.alloc | apply Ext.drew | apply Ext.drewN | (refine Ext.trans ?_ (by assumption))))) hx)).1.1 | exact (HA.out w' (Ext.trans (by (repeat (first | exact Ext.refl _ | assumption | apply Ext.alloc | apply Ext.drew | apply Ext.drewN | (refine Ext.trans ?_ (by assumption))))) hx)).1.2)
        case hs3 =>
          repeat' (first
            | exact FSteps.nil
            | refine FSteps.cons ?_ ?_
            | (refine FStep.off_ _ _ _ rfl rfl ?_ (fun _ => rfl) ?_; (focus (intro u w hd; simp [vOf, is, Region.binds] at hd; simp [hd])); (intro w'; exact rfl); done)
            | ((first
                | refine FStep.plain rfl ?_
                | (refine FStep.on_ _ _ _ rfl rfl ?_ ?_; (focus (intro u w hd; simp [vOf, is, Region.binds] at hd; simp [hd]))))
               intro u w hW hC hd K hK
               (try simp [vOf, is, Region.binds] at hd)
               simp only [upd, Nat.reduceEqDiff, if_true, if_false] at hK
               (try simp only [hd] at hK)
               go_simp
               (first
                 | (refine hK _ _ ?_ ?_; (first | exact rfl); (repeat (first | exact Ext.refl _ | assumption | apply Ext.alloc | apply Ext.drew | apply Ext.drewN | (refine Ext.trans ?_ (by assumption)))))
                 | (go_at_call 20; refine (IsDiagonal_any _ _ _ _ _ _ (hp.ext (by (repeat (first | exact Ext.refl _ | assumption | apply Ext.alloc | apply Ext.drew | apply Ext.drewN | (refine Ext.trans ?_ (by assumption)))))) hn).mono ?_; rw [d1]; rintro e w1 ⟨rfl, hb⟩; (try go_simp); refine hK _ _ ?_ ?_; (first | exact rfl); (repeat (first | exact Ext.refl _ | assumption | apply Ext.alloc | apply Ext.drew | apply Ext.drewN | (refine Ext.trans ?_ (by assumption))))))))
        case hV3 => (simp only [List.forall_mem_cons]; simp [stable_is])
        intro u w2 hW2 hC2 hd
        simp only [AllV, is] at hd
        simp only [hd]
        clear hd
        clear hC2
        go_wp2
        go_ret
        exact ⟨ret_bool (by rw [HV.out]), by (repeat (first | exact Ext.refl _ | assumption | apply Ext.alloc | apply Ext.drew | apply Ext.drewN | (refine Ext.trans ?_ (by assumption))))⟩
      · cases d2 : diagB l (gi b 0) (gi b 1)
        · have HV := hide (show ddV l a b = false by unfold ddV; rw [e1, e2, d1, d2]; rfl)
          clear e1 e2
          go_enter Try.func29, Try.ntmps29
          go_wp2
          refine wp_flow (by kernel_rfl) (by kernel_rfl) (fun u => ⟨#[_, _, _, _, _, _, _, u 0, u 1, u 2, u 3, u 4, u 5, u 6, u 7, u 8, u 9, u 10, u 11, u 12, u 13, u 14, u 15, u 16, u 17, u 18, u 19, u 20, u 21, u 22, u 23, u 24, u 25, u 26, u 27, u 28, u 29, _, _, _, _, _, _, _, _, _, _, _, _, _, _, _, _, _, _, _, _, _, _, _, _, _, _, _, _, _, _, _], _⟩) (fun i => List.getD [_, _, _, _, _, _, _, _, _, _, _, _, _, _, _, _, _, _, _, _, _, _, _, _, _, _, _, _, _, _] i undef) [is ?v4_0, is ?v4_1, is ?v4_2, is ?v4_3, is ?v4_4, is ?v4_5, is ?v4_6, is ?v4_7, is ?v4_8, is ?v4_9, is ?v4_10, is ?v4_11, is ?v4_12, is ?v4_13, is ?v4_14, is ?v4_15, is ?v4_16, is ?v4_17, is ?v4_18, is ?v4_19, is ?v4_20, is ?v4_21, is ?v4_22, is ?v4_23, is ?v4_24, is ?v4_25, is ?v4_26, is ?v4_27, is ?v4_28, is ?v4_29] (fun w' => w'.cell? ⟨w.heap.size, 0, none⟩ = some (.slice A l.length c) ∧ w.heap.size < w'.heap.size ∧ (w'.cell? ⟨ba, oa, none⟩ = some (.int .i64 (gi a 0)) ∧ w'.cell? ⟨ba, oa + 1, none⟩ = some (.int .i64 (gi a 1))) ∧ (w'.cell? ⟨bb, ob, none⟩ = some (.int .i64 (gi b 0)) ∧ w'.cell? ⟨bb, ob + 1, none⟩ = some (.int .i64 (gi b 1)))) _ rfl ?hC4 ?hs4 ?hV4 ?fin4
          case hC4 => exact fun w' hx => (by have hq : Ext _ w' := hx; have hf0 := HB.out w' (by (repeat (first | exact Ext.refl _ | assumption | apply Ext.alloc | apply Ext.drew | apply Ext.drewN | (refine Ext.trans ?_ (by assumption))))); and_intros <;> first | exact hf0 | exact hf0.1 | exact hf0.2.1 | exact hf0.2.2.1 | exact hf0.2.2.2.1 | exact hf0.2.2.2.2.1 | exact hf0.2.2.2.2.2.1 | exact hf0.2.2.2.2.2.2.1 | exact hf0.2.2.2.2.2.2.2.1 | exact hf0.2.2.2.2.2.2.2.2.1 | exact hf0.2.2.2.2.2.2.2.2.2.1 | exact hf0.2.2.2.2.2.2.2.2.2.2.1 | exact hf0.2.2.2.2.2.2.2.2.2.2.2.1 | exact hf0.2.2.2.2.2.2.2.2.2.2.2.2.1 | exact hf0.2.2.2.2.2.2.2.2.2.2.2.2.2.1 | exact hf0.2 | exact hf0.2.2 | exact hf0.2.2.2 | exact hf0.2.2.2.2 | exact hf0.2.2.2.2.2 | exact hf0.2.2.2.2.2.2 | exact hf0.2.2.2.2.2.2.2 | exact hf0.2.2.2.2.2.2.2.2 | exact hf0.2.2.2.2.2.2.2.2.2 | exact hf0.2.2.2.2.2.2.2.2.2.2 | exact hf0.2.2.2.2.2.2.2.2.2.2.2 | exact hf0.2.2.2.2.2.2.2.2.2.2.2.2 | exact hf0.2.2.2.2.2.2.2.2.2.2.2.2.2 | exact (HA.out w' (Ext.trans (by (repeat (first | exact Ext.refl _ | assumption | apply Ext.alloc | apply Ext.drew | apply Ext.drewN | (refine Ext.trans ?_ (by assumption))))) hx)).1.1 | exact (HA.out w' (Ext.trans (by (repeat (first | exact Ext.refl _ | assumption | apply Ext.alloc | apply Ext.drew | apply Ext.drewN | (refine Ext.trans ?_ (by assumption))))) hx)).1.2 | exact (HA.out w' (Ext.trans (by (repeat (first | exact Ext.refl _ | assumption | apply Ext.alloc | apply Ext.drew | apply Ext.drewN | (refine Ext.trans ?_ (by assumption))))) hx)).2.1 | exact (HA.out w' (Ext.trans (by (repeat (first | exact Ext.refl _ | assumption | apply Ext.alloc | apply Ext.drew | apply Ext.drewN | (refine Ext.trans ?_ (by assumption))))) hx)).2.2)
          case hs4 =>
            repeat' (first
              | exact FSteps.nil
              | refine FSteps.cons ?_ ?_
              | (refine FStep.off_ _ _ _ rfl rfl ?_ (fun _ => rfl) ?_; (focus (intro u w hd; simp [vOf, is, Region.binds] at hd; simp [hd])); (intro w'; exact rfl); done)
              | ((first
                  | refine FStep.plain rfl ?_
                  | (refine FStep.on_ _ _ _ rfl rfl ?_ ?_; (focus (intro u w hd; simp [vOf, is, Region.binds] at hd; simp [hd]))))
                 intro u w hW hC hd K hK
                 (try simp [vOf, is, Region.binds] at hd)
                 simp only [upd, Nat.reduceEqDiff, if_true, if_false] at hK
                 (try simp only [hd] at hK)
                 go_simp
                 (first
                   | (refine hK _ _ ?_ ?_; (first | exact rfl); (repeat (first | exact Ext.refl _ | assumption | apply Ext.alloc | apply Ext.drew | apply Ext.drewN | (refine Ext.trans ?_ (by assumption)))))
                   | (go_at_call 20; refine (IsDiagonal_any _ _ _ _ _ _ (hp.ext (by (repeat (first | exact Ext.refl _ | assumption | apply Ext.alloc | apply Ext.drew | apply Ext.drewN | (refine Ext.trans ?_ (by assumption)))))) hn).mono ?_; (first | rw [d1] | rw [d2]); rintro e w1 ⟨rfl, hb⟩; (try go_simp); refine hK _ _ ?_ ?_; (first | exact rfl); (repeat (first | exact Ext.refl _ | assumption | apply Ext.alloc | apply Ext.drew | apply Ext.drewN | (refine Ext.trans ?_ (by assumption))))))))
          case hV4 => (simp only [List.forall_mem_cons]; simp [stable_is])
          intro u w2 hW2 hC2 hd
          simp only [AllV, is] at hd
          simp only [hd]
          clear hd
          clear hC2
          go_wp2
          go_ret
          exact ⟨ret_bool (by rw [HV.out]), by (repeat (first | exact Ext.refl _ | assumption | apply Ext.alloc | apply Ext.drew | apply Ext.drewN | (refine Ext.trans ?_ (by assumption))))⟩
        · have HV := hide (show ddV l a b = crossB (gx l (gi a 0).toNat) (gy l (gi a 0).toNat) (gx l (gi a 1).toNat) (gy l (gi a 1).toNat) (gx l (gi b 0).toNat) (gy l (gi b 0).toNat) (gx l (gi b 1).toNat) (gy l (gi b 1).toNat) by unfold ddV; rw [e1, e2, d1, d2]; rfl)
          obtain ⟨m1, p1, f1, g1, hm1, hp1, hr⟩ := diagB_at d1
          obtain ⟨m2, p2, f2, g2, hm2, hp2, _⟩ := diagB_at d2
          rw [f1, g1, f2, g2] at HV HA
          rw [f1, g1] at d1
          rw [f2, g2] at d2
          simp only [Int.toNat_natCast] at HV
          obtain ⟨b0, off, rfl⟩ := hp.some_ (by omega)
          have r1 : (m1 : Int) < (l.length : Int) := by omega
          have r2 : (p1 : Int) < (l.length : Int) := by omega
          have r3 : (m2 : Int) < (l.length : Int) := by omega
          have r4 : (p2 : Int) < (l.length : Int) := by omega
          clear e1 e2 f1 g1 f2 g2 hr
          go_enter Try.func29, Try.ntmps29
          go_wp2
          refine wp_flow (by kernel_rfl) (by kernel_rfl) (fun u => ⟨#[_, _, _, _, _, _, _, u 0, u 1, u 2, u 3, u 4, u 5, u 6, u 7, u 8, u 9, u 10, u 11, u 12, u 13, u 14, u 15, u 16, u 17, u 18, u 19, u 20, u 21, u 22, u 23, u 24, u 25, u 26, u 27, u 28, u 29, _, _, _, _, _, _, _, _, _, _, _, _, _, _, _, _, _, _, _, _, _, _, _, _, _, _, _, _, _, _, _], _⟩) (fun i => List.getD [_, _, _, _, _, _, _, _, _, _, _, _, _, _, _, _, _, _, _, _, _, _, _, _, _, _, _, _, _, _] i undef) [is ?v5_0, is ?v5_1, is ?v5_2, is ?v5_3, is ?v5_4, is ?v5_5, is ?v5_6, is ?v5_7, is ?v5_8, is ?v5_9, is ?v5_10, is ?v5_11, is ?v5_12, is ?v5_13, is ?v5_14, is ?v5_15, is ?v5_16, is ?v5_17, is ?v5_18, is ?v5_19, is ?v5_20, is ?v5_21, is ?v5_22, is ?v5_23, is ?v5_24, is ?v5_25, is ?v5_26, is ?v5_27, is ?v5_28, is ?v5_29] (fun w' => w'.cell? ⟨w.heap.size, 0, none⟩ = some (.slice (some ⟨b0, off, none⟩) l.length c) ∧ w.heap.size < w'.heap.size ∧ (w'.cell? ⟨ba, oa, none⟩ = some (.int .i64 (m1 : Int)) ∧ w'.cell? ⟨ba, oa + 1, none⟩ = some (.int .i64 (p1 : Int))) ∧ (w'.cell? ⟨bb, ob, none⟩ = some (.int .i64 (m2 : Int)) ∧ w'.cell? ⟨bb, ob + 1, none⟩ = some (.int .i64 (p2 : Int)))) _ rfl ?hC5 ?hs5 ?hV5 ?fin5
          case hC5 => exact fun w' hx => (by have hq : Ext _ w' := hx; have hf0 := HB.out w' (by (repeat (first | exact Ext.refl _ | assumption | apply Ext.alloc | apply Ext.drew | apply Ext.drewN | (refine Ext.trans ?_ (by assumption))))); and_intros <;> first | exact hf0 | exact hf0.1 | exact hf0.2.1 | exact hf0.2.2.1 | exact hf0.2.2.2.1 | exact hf0.2.2.2.2.1 | exact hf0.2.2.2.2.2.1 | exact hf0.2.2.2.2.2.2.1 | exact hf0.2.2.2.2.2.2.2.1 | exact hf0.2.2.2.2.2.2.2.2.1 | exact hf0.2.2.2.2.2.2.2.2.2.1 | exact hf0.2.2.2.2.2.2.2.2.2.2.1 | exact hf0.2.2.2.2.2.2.2.2.2.2.2.1 | exact hf0.2.2.2.2.2.2.2.2.2.2.2.2.1 | exact hf0.2.2.2.2.2.2.2.2.2.2.2.2.2.1 | exact hf0.2 | exact hf0.2.2 | exact hf0.2.2.2 | exact hf0.2.2.2.2 | exact hf0.2.2.2.2.2 | exact hf0.2.2.2.2.2.2 | exact hf0.2.2.2.2.2.2.2 | exact hf0.2.2.2.2.2.2.2.2 | exact hf0.2.2.2.2.2.2.2.2.2 | exact hf0.2.2.2.2.2.2.2.2.2.2 | exact hf0.2.2.2.2.2.2.2.2.2.2.2 | exact hf0.2.2.2.2.2.2.2.2.2.2.2.2 | exact hf0.2.2.2.2.2.2.2.2.2.2.2.2.2 | exact (HA.out w' (Ext.trans (by (repeat (first | exact Ext.refl _ | assumption | apply Ext.alloc | apply Ext.drew | apply Ext.drewN | (refine Ext.trans ?_ (by assumption))))) hx)).1.1 | exact (HA.out w' (Ext.trans (by (repeat (first | exact Ext.refl _ | assumption | apply Ext.alloc | apply Ext.drew | apply Ext.drewN | (refine Ext.trans ?_ (by assumption))))) hx)).1.2 | exact (HA.out w' (Ext.trans (by (repeat (first | exact Ext.refl _ | assumption | apply Ext.alloc | apply Ext.drew | apply Ext.drewN | (refine Ext.trans ?_ (by assumption))))) hx)).2.1 | exact (HA.out w' (Ext.trans (by (repeat (first | exact Ext.refl _ | assumption | apply Ext.alloc | apply Ext.drew | apply Ext.drewN | (refine Ext.trans ?_ (by assumption))))) hx)).2.2)
          case hs5 =>
            repeat' (first
              | exact FSteps.nil
              | refine FSteps.cons ?_ ?_
              | (refine FStep.off_ _ _ _ rfl rfl ?_ (fun _ => rfl) ?_; (focus (intro u w hd; simp [vOf, is, Region.binds] at hd; simp [hd])); (intro w'; exact rfl); done)
              | ((first
                  | refine FStep.plain rfl ?_
                  | (refine FStep.on_ _ _ _ rfl rfl ?_ ?_; (focus (intro u w hd; simp [vOf, is, Region.binds] at hd; simp [hd]))))
                 intro u w hW hC hd K hK
                 (try simp [vOf, is, Region.binds] at hd)
                 simp only [upd, Nat.reduceEqDiff, if_true, if_false] at hK
                 (try simp only [hd] at hK)
                 go_simp
                 (first
                   | (refine hK _ _ ?_ ?_; (first | exact rfl); (repeat (first | exact Ext.refl _ | assumption | apply Ext.alloc | apply Ext.drew | apply Ext.drewN | (refine Ext.trans ?_ (by assumption)))))
                   | (go_at_call 20; refine (IsDiagonal_any _ _ _ _ _ _ (hp.ext (by (repeat (first | exact Ext.refl _ | assumption | apply Ext.alloc | apply Ext.drew | apply Ext.drewN | (refine Ext.trans ?_ (by assumption)))))) hn).mono ?_; (first | rw [d1] | rw [d2]); rintro e w1 ⟨rfl, hb⟩; (try go_simp); refine hK _ _ ?_ ?_; (first | exact rfl); (repeat (first | exact Ext.refl _ | assumption | apply Ext.alloc | apply Ext.drew | apply Ext.drewN | (refine Ext.trans ?_ (by assumption))))))))
          case hV5 => (simp only [List.forall_mem_cons]; simp [stable_is])
          intro u w2 hW2 hC2 hd
          simp only [AllV, is] at hd
          simp only [hd]
          clear hd
          obtain ⟨wd, rfl⟩ : ∃ ws : World, ws = w2 := ⟨_, rfl⟩
          clear hC2 d1 d2 n1 n2
          have hpd := hp.ext (show Ext w wd by (repeat (first | exact Ext.refl _ | assumption | apply Ext.alloc | apply Ext.drew | apply Ext.drewN | (refine Ext.trans ?_ (by assumption)))))
          go_wp2
          refine wp_flow (by kernel_rfl) (by kernel_rfl) (fun u => ⟨#[_, _, _, _, _, _, u 31, _, _, _, _, _, _, _, _, _, _, _, _, _, _, _, _, _, _, _, _, _, _, _, _, _, _, _, _, _, _, u 0, u 1, u 2, u 3, u 4, u 5, u 6, u 7, u 8, u 9, u 10, u 11, u 12, u 13, u 14, u 15, u 16, u 17, u 18, u 19, u 20, u 21, u 22, u 23, u 24, u 25, u 26, u 27, u 28, u 29, u 30], _⟩) (fun i => List.getD [_, _, _, _, _, _, _, _, _, _, _, _, _, _, _, _, _, _, _, _, _, _, _, _, _, _, _, _, _, _, _, _] i undef) [is ?v6_0, is ?v6_1, is ?v6_2, is ?v6_3, is ?v6_4, is ?v6_5, is ?v6_6, is ?v6_7, is ?v6_8, is ?v6_9, is ?v6_10, is ?v6_11, is ?v6_12, is ?v6_13, is ?v6_14, is ?v6_15, is ?v6_16, is ?v6_17, is ?v6_18, is ?v6_19, is ?v6_20, is ?v6_21, is ?v6_22, is ?v6_23, is ?v6_24, is ?v6_25, is ?v6_26, is ?v6_27, is ?v6_28, is ?v6_29, is ?v6_30, is ?v6_31] (fun w' => w'.cell? ⟨w.heap.size, 0, none⟩ = some (.slice (some ⟨b0, off, none⟩) l.length c) ∧ w.heap.size < w'.heap.size ∧ (w'.cell? ⟨ba, oa, none⟩ = some (.int .i64 (m1 : Int)) ∧ w'.cell? ⟨ba, oa + 1, none⟩ = some (.int .i64 (p1 : Int))) ∧ (w'.cell? ⟨bb, ob, none⟩ = some (.int .i64 (m2 : Int)) ∧ w'.cell? ⟨bb, ob + 1, none⟩ = some (.int .i64 (p2 : Int))) ∧ w'.cell? ⟨b0, off + m1 * 2, none⟩ = some (.int .i64 (gx l (m1))) ∧ w'.cell? ⟨b0, off + m1 * 2 + 1, none⟩ = some (.int .i64 (gy l (m1))) ∧ w'.cell? ⟨b0, off + p1 * 2, none⟩ = some (.int .i64 (gx l (p1))) ∧ w'.cell? ⟨b0, off + p1 * 2 + 1, none⟩ = some (.int .i64 (gy l (p1))) ∧ w'.cell? ⟨b0, off + m2 * 2, none⟩ = some (.int .i64 (gx l (m2))) ∧ w'.cell? ⟨b0, off + m2 * 2 + 1, none⟩ = some (.int .i64 (gy l (m2))) ∧ w'.cell? ⟨b0, off + p2 * 2, none⟩ = some (.int .i64 (gx l (p2))) ∧ w'.cell? ⟨b0, off + p2 * 2 + 1, none⟩ = some (.int .i64 (gy l (p2)))) _ rfl ?hC6 ?hs6 ?hV6 ?fin6
          case hC6 => exact fun w' hx => (by have hq : Ext _ w' := hx; have hf0 := HB.out w' (by (repeat (first | exact Ext.refl _ | assumption | apply Ext.alloc | apply Ext.drew | apply Ext.drewN | (refine Ext.trans ?_ (by assumption))))); and_intros <;> first | exact hf0 | exact hf0.1 | exact hf0.2.1 | exact hf0.2.2.1 | exact hf0.2.2.2.1 | exact hf0.2.2.2.2.1 | exact hf0.2.2.2.2.2.1 | exact hf0.2.2.2.2.2.2.1 | exact hf0.2.2.2.2.2.2.2.1 | exact hf0.2.2.2.2.2.2.2.2.1 | exact hf0.2.2.2.2.2.2.2.2.2.1 | exact hf0.2.2.2.2.2.2.2.2.2.2.1 | exact hf0.2.2.2.2.2.2.2.2.2.2.2.1 | exact hf0.2.2.2.2.2.2.2.2.2.2.2.2.1 | exact hf0.2.2.2.2.2.2.2.2.2.2.2.2.2.1 | exact hf0.2 | exact hf0.2.2 | exact hf0.2.2.2 | exact hf0.2.2.2.2 | exact hf0.2.2.2.2.2 | exact hf0.2.2.2.2.2.2 | exact hf0.2.2.2.2.2.2.2 | exact hf0.2.2.2.2.2.2.2.2 | exact hf0.2.2.2.2.2.2.2.2.2 | exact hf0.2.2.2.2.2.2.2.2.2.2 | exact hf0.2.2.2.2.2.2.2.2.2.2.2 | exact hf0.2.2.2.2.2.2.2.2.2.2.2.2 | exact hf0.2.2.2.2.2.2.2.2.2.2.2.2.2 | exact (HA.out w' (Ext.trans (by (repeat (first | exact Ext.refl _ | assumption | apply Ext.alloc | apply Ext.drew | apply Ext.drewN | (refine Ext.trans ?_ (by assumption))))) hx)).1.1 | exact (HA.out w' (Ext.trans (by (repeat (first | exact Ext.refl _ | assumption | apply Ext.alloc | apply Ext.drew | apply Ext.drewN | (refine Ext.trans ?_ (by assumption))))) hx)).1.2 | exact (HA.out w' (Ext.trans (by (repeat (first | exact Ext.refl _ | assumption | apply Ext.alloc | apply Ext.drew | apply Ext.drewN | (refine Ext.trans ?_ (by assumption))))) hx)).2.1 | exact (HA.out w' (Ext.trans (by (repeat (first | exact Ext.refl _ | assumption | apply Ext.alloc | apply Ext.drew | apply Ext.drewN | (refine Ext.trans ?_ (by assumption))))) hx)).2.2 | exact ((hpd.ext hq).cell hm1).2.1 | exact ((hpd.ext hq).cell hm1).2.2 | exact ((hpd.ext hq).cell hp1).2.1 | exact ((hpd.ext hq).cell hp1).2.2 | exact ((hpd.ext hq).cell hm2).2.1 | exact ((hpd.ext hq).cell hm2).2.2 | exact ((hpd.ext hq).cell hp2).2.1 | exact ((hpd.ext hq).cell hp2).2.2)
          case hs6 =>
            repeat' (first
              | exact FSteps.nil
              | refine FSteps.cons ?_ ?_
              | (refine FStep.off_ _ _ _ rfl rfl ?_ (fun _ => rfl) ?_; (focus (intro u w hd; simp [vOf, is, Region.binds] at hd; simp [hd])); (intro w'; exact rfl); done)
              | ((first
                  | refine FStep.plain rfl ?_
                  | (refine FStep.on_ _ _ _ rfl rfl ?_ ?_; (focus (intro u w hd; simp [vOf, is, Region.binds] at hd; simp [hd]))))
                 intro u w hW hC hd K hK
                 (try simp [vOf, is, Region.binds] at hd)
                 simp only [upd, Nat.reduceEqDiff, if_true, if_false] at hK
                 (try simp only [hd] at hK)
                 go_simp
                 (first
                   | (refine hK _ _ ?_ ?_; (first | exact rfl); (repeat (first | exact Ext.refl _ | assumption | apply Ext.alloc | apply Ext.drew | apply Ext.drewN | (refine Ext.trans ?_ (by assumption)))))
                   | (go_at_call 52; refine (crosses_any _ _ _ _ _ _ _ _ _).mono ?_; rintro e w1 ⟨rfl, hb⟩; (try go_simp); refine hK _ _ ?_ ?_; (first | exact rfl); (repeat (first | exact Ext.refl _ | assumption | apply Ext.alloc | apply Ext.drew | apply Ext.drewN | (refine Ext.trans ?_ (by assumption))))))))
          case hV6 => (simp only [List.forall_mem_cons]; simp [stable_is])
          intro u w2 hW2 hC2 hd
          simp only [AllV, is] at hd
          simp only [hd]
          clear hd
          clear hC2
          go_wp2
          go_ret
          exact ⟨ret_bool (by rw [HV.out]), by (repeat (first | exact Ext.refl _ | assumption | apply Ext.alloc | apply Ext.drew | apply Ext.drewN | (refine Ext.trans ?_ (by assumption))))⟩

end Go.Proofs.Ytmccffmkfdcmmaa
