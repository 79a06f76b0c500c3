/-
  Contract: the reference's LowestCorner.
-/
import Derived.Test.YtngapnmegembaaaLow
namespace Go.Proofs.Ytngapnmegembaaa
open Go.RowKit

/-- the reference's number ahead of round k -/
def lowO (l : List (Int × Int)) (k : Nat) : Int := if k = 0 then -1 else (lowTo l k : Int)
theorem lowO_pos (l : List (Int × Int)) {k : Nat} (h : 0 < k) : lowO l k = (lowTo l k : Int) := by
  unfold lowO
  rw [if_neg (by omega)]
theorem lowTo_one (l : List (Int × Int)) : lowTo l 1 = 0 := by
  rw [lowTo_succ]
  show (if lowB l 0 0 = true then 0 else 0) = 0
  split <;> rfl


set_option maxRecDepth 100000 in
set_option maxHeartbeats 3200000 in
theorem sLowestCorner_any (A : Option Addr) (l : List (Int × Int)) (c : Nat) (w : World) (hp : RPts w A l) (hn : l.length ≤ 1048576) :
    Calls Try.prog 32 #[.agg #[.slice A l.length c]] w fun e w' => e = .returned (.int .i64 (lowV l)) ∧ Ext w w' := by
  cases hr : roomB l
  · have hl0 := hn
    have HB : Hid (∀ w', Ext (w.alloc (.cells #[.slice A l.length c] 29)) w' → w'.cell? ⟨w.heap.size, 0, none⟩ = some (.slice A l.length c) ∧ w.heap.size < w'.heap.size) := fun w' hx => by
      and_intros <;> (first | (have hz := hx.size; simp at hz; omega) | ((first | rw [hx.cells _ _ (by first | (simp; done) | (simp; omega))] | rw [hx.frozens _ _ (by first | (simp; done) | (simp; omega))]); (first | (simp [go_sem]; done) | (simp [go_sem, World.cell?_alloc_past]; done) | (simp [go_sem, World.frozen?]; done))))
    have HV := hide (show lowV l = -1 by simp [lowV, hr])
    go_enter Try.func32, Try.ntmps32
    go_wp2
    go_loopw [3, 4] (fun out i wr => i = .int .i64 0 ∧ Ext (w.alloc (.cells #[.slice A l.length c] 29)) wr ∧ out = .int .i64 (-1)) (fun _ i _ => 0)
    case atStart => exact ⟨rfl, by (repeat (first | exact Ext.refl _ | assumption | apply Ext.alloc | apply Ext.drew | apply Ext.drewN | (refine Ext.trans ?_ (by assumption)))), rfl⟩
    case round =>
      obtain ⟨rfl, hbl, rfl⟩ := hrel
      have hcb := HB.out wr hbl
      by_cases h0 : 0 < l.length
      · go_wp2_with (go_at_call 22; refine (sRoomOk_any _ _ _ _ (hp.ext (by (repeat (first | exact Ext.refl _ | assumption | apply Ext.alloc | apply Ext.drew | apply Ext.drewN | (refine Ext.trans ?_ (by assumption)))))) hn).mono ?_; rintro e w1 ⟨rfl, hb1⟩)
        go_ret
        exact ⟨by rw [HV.out]; rfl, by (repeat (first | exact Ext.refl _ | assumption | apply Ext.alloc | apply Ext.drew | apply Ext.drewN | (refine Ext.trans ?_ (by assumption))))⟩
      · go_wp2
        go_ret
        exact ⟨by rw [HV.out]; rfl, by (repeat (first | exact Ext.refl _ | assumption | apply Ext.alloc | apply Ext.drew | apply Ext.drewN | (refine Ext.trans ?_ (by assumption))))⟩
  · have hl3 := (roomB_fine hr).2
    obtain ⟨b, off, rfl⟩ := hp.some_ (by omega)
    have HB : Hid (∀ w', Ext (w.alloc (.cells #[.slice (some ⟨b, off, none⟩) l.length c] 29)) w' → w'.cell? ⟨w.heap.size, 0, none⟩ = some (.slice (some ⟨b, off, none⟩) l.length c) ∧ w.heap.size < w'.heap.size) := fun w' hx => by
      and_intros <;> (first | (have hz := hx.size; simp at hz; omega) | ((first | rw [hx.cells _ _ (by first | (simp; done) | (simp; omega))] | rw [hx.frozens _ _ (by first | (simp; done) | (simp; omega))]); (first | (simp [go_sem]; done) | (simp [go_sem, World.cell?_alloc_past]; done) | (simp [go_sem, World.frozen?]; done))))
    have HV := hide (show lowV l = (lowTo l l.length : Int) by simp [lowV, hr])
    go_enter Try.func32, Try.ntmps32
    go_wp2
    go_loopw [3, 4] (fun out i wr => ∃ k : Nat, k ≤ l.length ∧ i = .int .i64 k ∧ out = .int .i64 (lowO l k) ∧ Ext (w.alloc (.cells #[.slice (some ⟨b, off, none⟩) l.length c] 29)) wr) (fun _ i _ => l.length - (intOf i).toNat)
    case atStart => exact ⟨0, Nat.zero_le _, rfl, rfl, by (repeat (first | exact Ext.refl _ | assumption | apply Ext.alloc | apply Ext.drew | apply Ext.drewN | (refine Ext.trans ?_ (by assumption))))⟩
    case round =>
      obtain ⟨k, hk, rfl, rfl, hbl⟩ := hrel
      have hcb := HB.out wr hbl
      by_cases hlt : k < l.length
      · by_cases hk0 : k = 0
        · subst hk0
          have HS := hide (lowTo_one l)
          rw [show lowO l 0 = -1 from rfl]
          go_wp2_with (go_at_call 22; refine (sRoomOk_any _ _ _ _ (hp.ext (by (repeat (first | exact Ext.refl _ | assumption | apply Ext.alloc | apply Ext.drew | apply Ext.drewN | (refine Ext.trans ?_ (by assumption)))))) hn).mono ?_; rintro e w1 ⟨rfl, hb1⟩; have hcb1 := HB.out w1 (by (repeat (first | exact Ext.refl _ | assumption | apply Ext.alloc | apply Ext.drew | apply Ext.drewN | (refine Ext.trans ?_ (by assumption))))))
          obtain ⟨wx, rfl⟩ : ∃ wx : World, wx = w1 := ⟨_, rfl⟩
          refine wp_flow (by kernel_rfl) (by kernel_rfl) (fun u => ⟨#[_, _, _, _, _, _, _, _, _, _, _, _, _, _, _, _, u 0, u 1, u 2, u 3, u 4, u 5, u 6, u 7, u 8, u 9, u 10, u 11, u 12, u 13, u 14, u 15, u 16, u 17, u 18, u 19, u 20, u 21, u 22, u 23, u 24, u 25, u 26, u 27, u 28, u 29, u 30, u 31, u 32, u 33, u 34, u 35, u 36, u 37, u 38, u 39, u 40, u 41, u 42, u 43, u 44, u 45, u 46, _, _], _⟩) (fun i => List.getD [_, _, _, _, _, _, _, _, _, _, _, _, _, _, _, _, _, _, _, _, _, _, _, _, _, _, _, _, _, _, _, _, _, _, _, _, _, _, _, _, _, _, _, _, _, _, _] i undef) [is ?v30_0, is ?v30_1, is ?v30_2, is ?v30_3, is ?v30_4, is ?v30_5, is ?v30_6, is ?v30_7, is ?v30_8, is ?v30_9, is ?v30_10, is ?v30_11, is ?v30_12, is ?v30_13, is ?v30_14, is ?v30_15, is ?v30_16, is ?v30_17, is ?v30_18, is ?v30_19, is ?v30_20, is ?v30_21, is ?v30_22, is ?v30_23, is ?v30_24, is ?v30_25, is ?v30_26, is ?v30_27, is ?v30_28, is ?v30_29, is ?v30_30, is ?v30_31, is ?v30_32, is ?v30_33, is ?v30_34, is ?v30_35, is ?v30_36, is ?v30_37, is ?v30_38, is ?v30_39, is ?v30_40, is ?v30_41, is ?v30_42, is ?v30_43, is ?v30_44, is ?v30_45, is ?v30_46] (fun w' => w'.cell? ⟨w.heap.size, 0, none⟩ = some (.slice (some ⟨b, off, none⟩) l.length c) ∧ w.heap.size < w'.heap.size) _ rfl ?hC30 ?hs30 ?hV30 ?fin30
          case hC30 => exact fun w' hx => (by have hq : Ext _ w' := hx; have hf0 := HB.out w' (by (repeat (first | exact Ext.refl _ | assumption | apply Ext.alloc | apply Ext.drew | apply Ext.drewN | (refine Ext.trans ?_ (by assumption))))); and_intros <;> first | exact hf0 | exact hf0.1 | exact hf0.2.1 | exact hf0.2.2.1 | exact hf0.2.2.2.1 | exact hf0.2.2.2.2.1 | exact hf0.2.2.2.2.2.1 | exact hf0.2.2.2.2.2.2.1 | exact hf0.2.2.2.2.2.2.2.1 | exact hf0.2.2.2.2.2.2.2.2.1 | exact hf0.2.2.2.2.2.2.2.2.2.1 | exact hf0.2.2.2.2.2.2.2.2.2.2.1 | exact hf0.2.2.2.2.2.2.2.2.2.2.2.1 | exact hf0.2.2.2.2.2.2.2.2.2.2.2.2.1 | exact hf0.2.2.2.2.2.2.2.2.2.2.2.2.2.1 | exact hf0.2 | exact hf0.2.2 | exact hf0.2.2.2 | exact hf0.2.2.2.2 | exact hf0.2.2.2.2.2 | exact hf0.2.2.2.2.2.2 | exact hf0.2.2.2.2.2.2.2 | exact hf0.2.2.2.2.2.2.2.2 | exact hf0.2.2.2.2.2.2.2.2.2 | exact hf0.2.2.2.2.2.2.2.2.2.2 | exact hf0.2.2.2.2.2.2.2.2.2.2.2 | exact hf0.2.2.2.2.2.2.2.2.2.2.2.2 | exact hf0.2.2.2.2.2.2.2.2.2.2.2.2.2)
          case hs30 =>
            repeat' (first
              | exact FSteps.nil
              | refine FSteps.cons ?_ ?_
              | (refine FStep.off_ _ _ _ rfl rfl ?_ (fun _ => rfl) ?_; (focus (intro u w hd; simp [vOf, is, Region.binds] at hd; simp [hd])); (intro w'; exact rfl); done)
              | ((first
                  | refine FStep.plain rfl ?_
                  | (refine FStep.on_ _ _ _ rfl rfl ?_ ?_; (focus (intro u w hd; simp [vOf, is, Region.binds] at hd; simp [hd]))))
                 intro u w hW hC hd K hK
                 (try simp [vOf, is, Region.binds] at hd)
                 simp only [upd, Nat.reduceEqDiff, if_true, if_false] at hK
                 (try simp only [hd] at hK)
                 go_simp
                 (first
                   | (refine hK _ _ ?_ ?_; (first | exact rfl); (repeat (first | exact Ext.refl _ | assumption | apply Ext.alloc | apply Ext.drew | apply Ext.drewN | (refine Ext.trans ?_ (by assumption))))))))
          case hV30 => (simp only [List.forall_mem_cons]; simp [stable_is])
          case fin30 =>
            intro u w2 hW2 hC2 hd
            simp only [AllV, is] at hd
            simp only [hd]
            clear hd
            clear hC2 hcb1
            go_wp2
            go_roundw
            case rel => exact ⟨1, by omega, by go_num, by rw [lowO_pos l (by omega), HS.out]; rfl, by (repeat (first | exact Ext.refl _ | assumption | apply Ext.alloc | apply Ext.drew | apply Ext.drewN | (refine Ext.trans ?_ (by assumption))))⟩
            case measure => simp [intOf]; omega
        · rw [lowO_pos l (by omega)]
          have hml' := lowTo_lt l k (by omega)
          obtain ⟨m, hm⟩ : ∃ m, m = lowTo l k := ⟨_, rfl⟩
          rw [← hm] at hml' ⊢
          have HM := hide hm
          clear hm
          have hml : m < l.length := by omega
          have i1 : (0 : Int) ≤ (m : Int) := by omega
          have i2 : (m : Int) < (l.length : Int) := by omega
          have i3 : (0 : Int) ≤ (k : Int) := by omega
          have i4 : (k : Int) < (l.length : Int) := by omega
          cases e1 : decide (gy l k < gy l m)
          · cases e2 : (gy l k == gy l m)
            · have HS := hide (show lowB l k m = false by simp [lowB, e1, e2])
              go_wp2_with (go_at_call 22; refine (sRoomOk_any _ _ _ _ (hp.ext (by (repeat (first | exact Ext.refl _ | assumption | apply Ext.alloc | apply Ext.drew | apply Ext.drewN | (refine Ext.trans ?_ (by assumption)))))) hn).mono ?_; rintro e w1 ⟨rfl, hb1⟩; have hcb1 := HB.out w1 (by (repeat (first | exact Ext.refl _ | assumption | apply Ext.alloc | apply Ext.drew | apply Ext.drewN | (refine Ext.trans ?_ (by assumption))))); have hpr : RPts w1 _ l := hp.ext (by (repeat (first | exact Ext.refl _ | assumption | apply Ext.alloc | apply Ext.drew | apply Ext.drewN | (refine Ext.trans ?_ (by assumption))))); obtain ⟨hz, hx0, hy0⟩ := hpr.cell hlt; obtain ⟨_, hx1, hy1⟩ := hpr.cell hml)
              obtain ⟨wx, rfl⟩ : ∃ wx : World, wx = w1 := ⟨_, rfl⟩
              refine wp_flow (by kernel_rfl) (by kernel_rfl) (fun u => ⟨#[_, _, _, _, _, _, _, _, _, _, _, _, _, _, _, _, u 0, u 1, u 2, u 3, u 4, u 5, u 6, u 7, u 8, u 9, u 10, u 11, u 12, u 13, u 14, u 15, u 16, u 17, u 18, u 19, u 20, u 21, u 22, u 23, u 24, u 25, u 26, u 27, u 28, u 29, u 30, u 31, u 32, u 33, u 34, u 35, u 36, u 37, u 38, u 39, u 40, u 41, u 42, u 43, u 44, u 45, u 46, _, _], _⟩) (fun i => List.getD [_, _, _, _, _, _, _, _, _, _, _, _, _, _, _, _, _, _, _, _, _, _, _, _, _, _, _, _, _, _, _, _, _, _, _, _, _, _, _, _, _, _, _, _, _, _, _] i undef) [is ?v31_0, is ?v31_1, is ?v31_2, is ?v31_3, is ?v31_4, is ?v31_5, is ?v31_6, is ?v31_7, is ?v31_8, is ?v31_9, is ?v31_10, is ?v31_11, is ?v31_12, is ?v31_13, is ?v31_14, is ?v31_15, is ?v31_16, is ?v31_17, is ?v31_18, is ?v31_19, is ?v31_20, is ?v31_21, is ?v31_22, is ?v31_23, is ?v31_24, is ?v31_25, is ?v31_26, is ?v31_27, is ?v31_28, is ?v31_29, is ?v31_30, is ?v31_31, is ?v31_32, is ?v31_33, is ?v31_34, is ?v31_35, is ?v31_36, is ?v31_37, is ?v31_38, is ?v31_39, is ?v31_40, is ?v31_41, is ?v31_42, is ?v31_43, is ?v31_44, is ?v31_45, is ?v31_46] (fun w' => w'.cell? ⟨w.heap.size, 0, none⟩ = some (.slice (some ⟨b, off, none⟩) l.length c) ∧ w.heap.size < w'.heap.size ∧ w'.cell? ⟨b, off + k * 2, none⟩ = some (.int .i64 (gx l (k))) ∧ w'.cell? ⟨b, off + k * 2 + 1, none⟩ = some (.int .i64 (gy l (k))) ∧ w'.cell? ⟨b, off + m * 2, none⟩ = some (.int .i64 (gx l (m))) ∧ w'.cell? ⟨b, off + m * 2 + 1, none⟩ = some (.int .i64 (gy l (m)))) _ rfl ?hC31 ?hs31 ?hV31 ?fin31
              case hC31 => exact fun w' hx => (by have hq : Ext _ w' := hx; have hf0 := HB.out w' (by (repeat (first | exact Ext.refl _ | assumption | apply Ext.alloc | apply Ext.drew | apply Ext.drewN | (refine Ext.trans ?_ (by assumption))))); and_intros <;> first | exact hf0 | exact hf0.1 | exact hf0.2.1 | exact hf0.2.2.1 | exact hf0.2.2.2.1 | exact hf0.2.2.2.2.1 | exact hf0.2.2.2.2.2.1 | exact hf0.2.2.2.2.2.2.1 | exact hf0.2.2.2.2.2.2.2.1 | exact hf0.2.2.2.2.2.2.2.2.1 | exact hf0.2.2.2.2.2.2.2.2.2.1 | exact hf0.2.2.2.2.2.2.2.2.2.2.1 | exact hf0.2.2.2.2.2.2.2.2.2.2.2.1 | exact hf0.2.2.2.2.2.2.2.2.2.2.2.2.1 | exact hf0.2.2.2.2.2.2.2.2.2.2.2.2.2.1 | exact hf0.2 | exact hf0.2.2 | exact hf0.2.2.2 | exact hf0.2.2.2.2 | exact hf0.2.2.2.2.2 | exact hf0.2.2.2.2.2.2 | exact hf0.2.2.2.2.2.2.2 | exact hf0.2.2.2.2.2.2.2.2 | exact hf0.2.2.2.2.2.2.2.2.2 | exact hf0.2.2.2.2.2.2.2.2.2.2 | exact hf0.2.2.2.2.2.2.2.2.2.2.2 | exact hf0.2.2.2.2.2.2.2.2.2.2.2.2 | exact hf0.2.2.2.2.2.2.2.2.2.2.2.2.2 | exact ((hpr.ext hq).cell hlt).2.1 | exact ((hpr.ext hq).cell hlt).2.2 | exact ((hpr.ext hq).cell hml).2.1 | exact ((hpr.ext hq).cell hml).2.2)
              case hs31 =>
                repeat' (first
                  | exact FSteps.nil
                  | refine FSteps.cons ?_ ?_
                  | (refine FStep.off_ _ _ _ rfl rfl ?_ (fun _ => rfl) ?_; (focus (intro u w hd; simp [vOf, is, Region.binds] at hd; simp [hd])); (intro w'; exact rfl); done)
                  | ((first
                      | refine FStep.plain rfl ?_
                      | (refine FStep.on_ _ _ _ rfl rfl ?_ ?_; (focus (intro u w hd; simp [vOf, is, Region.binds] at hd; simp [hd]))))
                     intro u w hW hC hd K hK
                     (try simp [vOf, is, Region.binds] at hd)
                     simp only [upd, Nat.reduceEqDiff, if_true, if_false] at hK
                     (try simp only [hd] at hK)
                     go_simp
                     (first
                       | (refine hK _ _ ?_ ?_; (first | exact rfl); (repeat (first | exact Ext.refl _ | assumption | apply Ext.alloc | apply Ext.drew | apply Ext.drewN | (refine Ext.trans ?_ (by assumption))))))))
              case hV31 => (simp only [List.forall_mem_cons]; simp [stable_is])
              case fin31 =>
                intro u w2 hW2 hC2 hd
                simp only [AllV, is] at hd
                simp only [hd]
                clear hd
                clear hC2 hx0 hy0 hx1 hy1 hcb1
                go_wp2
                go_roundw
                case rel => exact ⟨k + 1, by omega, by go_num, by rw [lowO_pos l (by omega), lowTo_succ, ← HM.out, HS.out]; rfl, by (repeat (first | exact Ext.refl _ | assumption | apply Ext.alloc | apply Ext.drew | apply Ext.drewN | (refine Ext.trans ?_ (by assumption))))⟩
                case measure => simp [intOf]; omega
            · cases e3 : decide (gx l k < gx l m)
              · have HS := hide (show lowB l k m = false by simp [lowB, e1, e2, e3])
                go_wp2_with (go_at_call 22; refine (sRoomOk_any _ _ _ _ (hp.ext (by (repeat (first | exact Ext.refl _ | assumption | apply Ext.alloc | apply Ext.drew | apply Ext.drewN | (refine Ext.trans ?_ (by assumption)))))) hn).mono ?_; rintro e w1 ⟨rfl, hb1⟩; have hcb1 := HB.out w1 (by (repeat (first | exact Ext.refl _ | assumption | apply Ext.alloc | apply Ext.drew | apply Ext.drewN | (refine Ext.trans ?_ (by assumption))))); have hpr : RPts w1 _ l := hp.ext (by (repeat (first | exact Ext.refl _ | assumption | apply Ext.alloc | apply Ext.drew | apply Ext.drewN | (refine Ext.trans ?_ (by assumption))))); obtain ⟨hz, hx0, hy0⟩ := hpr.cell hlt; obtain ⟨_, hx1, hy1⟩ := hpr.cell hml)
                obtain ⟨wx, rfl⟩ : ∃ wx : World, wx = w1 := ⟨_, rfl⟩
                refine wp_flow (by kernel_rfl) (by kernel_rfl) (fun u => ⟨#[_, _, _, _, _, _, _, _, _, _, _, _, _, _, _, _, u 0, u 1, u 2, u 3, u 4, u 5, u 6, u 7, u 8, u 9, u 10, u 11, u 12, u 13, u 14, u 15, u 16, u 17, u 18, u 19, u 20, u 21, u 22, u 23, u 24, u 25, u 26, u 27, u 28, u 29, u 30, u 31, u 32, u 33, u 34, u 35, u 36, u 37, u 38, u 39, u 40, u 41, u 42, u 43, u 44, u 45, u 46, _, _], _⟩) (fun i => List.getD [_, _, _, _, _, _, _, _, _, _, _, _, _, _, _, _, _, _, _, _, _, _, _, _, _, _, _, _, _, _, _, _, _, _, _, _, _, _, _, _, _, _, _, _, _, _, _] i undef) [is ?v32_0, is ?v32_1, is ?v32_2, is ?v32_3, is ?v32_4, is ?v32_5, is ?v32_6, is ?v32_7, is ?v32_8, is ?v32_9, is ?v32_10, is ?v32_11, is ?v32_12, is ?v32_13, is ?v32_14, is ?v32_15, is ?v32_16, is ?v32_17, is ?v32_18, is ?v32_19, is ?v32_20, is ?v32_21, is ?v32_22, is ?v32_23, is ?v32_24, is ?v32_25, is ?v32_26, is ?v32_27, is ?v32_28, is ?v32_29, is ?v32_30, is ?v32_31, is ?v32_32, is ?v32_33, is ?v32_34, is ?v32_35, is ?v32_36, is ?v32_37, is ?v32_38, is ?v32_39, is ?v32_40, is ?v32_41, is ?v32_42, is ?v32_43, is ?v32_44, is ?v32_45, is ?v32_46] (fun w' => w'.cell? ⟨w.heap.size, 0, none⟩ = some (.slice (some ⟨b, off, none⟩) l.length c) ∧ w.heap.size < w'.heap.size ∧ w'.cell? ⟨b, off + k * 2, none⟩ = some (.int .i64 (gx l (k))) ∧ w'.cell? ⟨b, off + k * 2 + 1, none⟩ = some (.int .i64 (gy l (k))) ∧ w'.cell? ⟨b, off + m * 2, none⟩ = some (.int .i64 (gx l (m))) ∧ w'.cell? ⟨b, off + m * 2 + 1, none⟩ = some (.int .i64 (gy l (m)))) _ rfl ?hC32 ?hs32 ?hV32 ?fin32
                case hC32 => exact fun w' hx => (by have hq : Ext _ w' := hx; have hf0 := HB.out w' (by (repeat (first | exact Ext.refl _ | assumption | apply Ext.alloc | apply Ext.drew | apply Ext.drewN | (refine Ext.trans ?_ (by assumption))))); and_intros <;> first | exact hf0 | exact hf0.1 | exact hf0.2.1 | exact hf0.2.2.1 | exact hf0.2.2.2.1 | exact hf0.2.2.2.2.1 | exact hf0.2.2.2.2.2.1 | exact hf0.2.2.2.2.2.2.1 | exact hf0.2.2.2.2.2.2.2.1 | exact hf0.2.2.2.2.2.2.2.2.1 | exact hf0.2.2.2.2.2.2.2.2.2.1 | exact hf0.2.2.2.2.2.2.2.2.2.2.1 | exact hf0.2.2.2.2.2.2.2.2.2.2.2.1 | exact hf0.2.2.2.2.2.2.2.2.2.2.2.2.1 | exact hf0.2.2.2.2.2.2.2.2.2.2.2.2.2.1 | exact hf0.2 | exact hf0.2.2 | exact hf0.2.2.2 | exact hf0.2.2.2.2 | exact hf0.2.2.2.2.2 | exact hf0.2.2.2.2.2.2 | exact hf0.2.2.2.2.2.2.2 | exact hf0.2.2.2.2.2.2.2.2 | exact hf0.2.2.2.2.2.2.2.2.2 | exact hf0.2.2.2.2.2.2.2.2.2.2 | exact hf0.2.2.2.2.2.2.2.2.2.2.2 | exact hf0.2.2.2.2.2.2.2.2.2.2.2.2 | exact hf0.2.2.2.2.2.2.2.2.2.2.2.2.2 | exact ((hpr.ext hq).cell hlt).2.1 | exact ((hpr.ext hq).cell hlt).2.2 | exact ((hpr.ext hq).cell hml).2.1 | exact ((hpr.ext hq).cell hml).2.2)
                case hs32 =>
                  repeat' (first
                    | exact FSteps.nil
                    | refine FSteps.cons ?_ ?_
                    | (refine FStep.off_ _ _ _ rfl rfl ?_ (fun _ => rfl) ?_; (focus (intro u w hd; simp [vOf, is, Region.binds] at hd; simp [hd])); (intro w'; exact rfl); done)
                    | ((first
                        | refine FStep.plain rfl ?_
                        | (refine FStep.on_ _ _ _ rfl rfl ?_ ?_; (focus (intro u w hd; simp [vOf, is, Region.binds] at hd; simp [hd]))))
                       intro u w hW hC hd K hK
                       (try simp [vOf, is, Region.binds] at hd)
                       simp only [upd, Nat.reduceEqDiff, if_true, if_false] at hK
                       (try simp only [hd] at hK)
                       go_simp
                       (first
                         | (refine hK _ _ ?_ ?_; (first | exact rfl); (repeat (first | exact Ext.refl _ | assumption | apply Ext.alloc | apply Ext.drew | apply Ext.drewN | (refine Ext.trans ?_ (by assumption))))))))
                case hV32 => (simp only [List.forall_mem_cons]; simp [stable_is])
                case fin32 =>
                  intro u w2 hW2 hC2 hd
                  simp only [AllV, is] at hd
                  simp only [hd]
                  clear hd
                  clear hC2 hx0 hy0 hx1 hy1 hcb1
                  go_wp2
                  go_roundw
                  case rel => exact ⟨k + 1, by omega, by go_num, by rw [lowO_pos l (by omega), lowTo_succ, ← HM.out, HS.out]; rfl, by (repeat (first | exact Ext.refl _ | assumption | apply Ext.alloc | apply Ext.drew | apply Ext.drewN | (refine Ext.trans ?_ (by assumption))))⟩
                  case measure => simp [intOf]; omega
              · have HS := hide (show lowB l k m = true by simp [lowB, e1, e2, e3])
                go_wp2_with (go_at_call 22; refine (sRoomOk_any _ _ _ _ (hp.ext (by (repeat (first | exact Ext.refl _ | assumption | apply Ext.alloc | apply Ext.drew | apply Ext.drewN | (refine Ext.trans ?_ (by assumption)))))) hn).mono ?_; rintro e w1 ⟨rfl, hb1⟩; have hcb1 := HB.out w1 (by (repeat (first | exact Ext.refl _ | assumption | apply Ext.alloc | apply Ext.drew | apply Ext.drewN | (refine Ext.trans ?_ (by assumption))))); have hpr : RPts w1 _ l := hp.ext (by (repeat (first | exact Ext.refl _ | assumption | apply Ext.alloc | apply Ext.drew | apply Ext.drewN | (refine Ext.trans ?_ (by assumption))))); obtain ⟨hz, hx0, hy0⟩ := hpr.cell hlt; obtain ⟨_, hx1, hy1⟩ := hpr.cell hml)
                obtain ⟨wx, rfl⟩ : ∃ wx : World, wx = w1 := ⟨_, rfl⟩
                refine wp_flow (by kernel_rfl) (by kernel_rfl) (fun u => ⟨#[_, _, _, _, _, _, _, _, _, _, _, _, _, _, _, _, u 0, u 1, u 2, u 3, u 4, u 5, u 6, u 7, u 8, u 9, u 10, u 11, u 12, u 13, u 14, u 15, u 16, u 17, u 18, u 19, u 20, u 21, u 22, u 23, u 24, u 25, u 26, u 27, u 28, u 29, u 30, u 31, u 32, u 33, u 34, u 35, u 36, u 37, u 38, u 39, u 40, u 41, u 42, u 43, u 44, u 45, u 46, _, _], _⟩) (fun i => List.getD [_, _, _, _, _, _, _, _, _, _, _, _, _, _, _, _, _, _, _, _, _, _, _, _, _, _, _, _, _, _, _, _, _, _, _, _, _, _, _, _, _, _, _, _, _, _, _] i undef) [is ?v33_0, is ?v33_1, is ?v33_2, is ?v33_3, is ?v33_4, is ?v33_5, is ?v33_6, is ?v33_7, is ?v33_8, is ?v33_9, is ?v33_10, is ?v33_11, is ?v33_12, is ?v33_13, is ?v33_14, is ?v33_15, is ?v33_16, is ?v33_17, is ?v33_18, is ?v33_19, is ?v33_20, is ?v33_21, is ?v33_22, is ?v33_23, is ?v33_24, is ?v33_25, is ?v33_26, is ?v33_27, is ?v33_28, is ?v33_29, is ?v33_30, is ?v33_31, is ?v33_32, is ?v33_33, is ?v33_34, is ?v33_35, is ?v33_36, is ?v33_37, is ?v33_38, is ?v33_39, is ?v33_40, is ?v33_41, is ?v33_42, is ?v33_43, is ?v33_44, is ?v33_45, is ?v33_46] (fun w' => w'.cell? ⟨w.heap.size, 0, none⟩ = some (.slice (some ⟨b, off, none⟩) l.length c) ∧ w.heap.size < w'.heap.size ∧ w'.cell? ⟨b, off + k * 2, none⟩ = some (.int .i64 (gx l (k))) ∧ w'.cell? ⟨b, off + k * 2 + 1, none⟩ = some (.int .i64 (gy l (k))) ∧ w'.cell? ⟨b, off + m * 2, none⟩ = some (.int .i64 (gx l (m))) ∧ w'.cell? ⟨b, off + m * 2 + 1, none⟩ = some (.int .i64 (gy l (m)))) _ rfl ?hC33 ?hs33 ?hV33 ?fin33
                case hC33 => exact fun w' hx => (by have hq : Ext _ w' := hx; have hf0 := HB.out w' (by (repeat (first | exact Ext.refl _ | assumption | apply Ext.alloc | apply Ext.drew | apply Ext.drewN | (refine Ext.trans ?_ (by assumption))))); and_intros <;> first | exact hf0 | exact hf0.1 | exact hf0.2.1 | exact hf0.2.2.1 | exact hf0.2.2.2.1 | exact hf0.2.2.2.2.1 | exact hf0.2.2.2.2.2.1 | exact hf0.2.2.2.2.2.2.1 | exact hf0.2.2.2.2.2.2.2.1 | exact hf0.2.2.2.2.2.2.2.2.1 | exact hf0.2.2.2.2.2.2.2.2.2.1 | exact hf0.2.2.2.2.2.2.2.2.2.2.1 | exact hf0.2.2.2.2.2.2.2.2.2.2.2.1 | exact hf0.2.2.2.2.2.2.2.2.2.2.2.2.1 | exact hf0.2.2.2.2.2.2.2.2.2.2.2.2.2.1 | exact hf0.2 | exact hf0.2.2 | exact hf0.2.2.2 | exact hf0.2.2.2.2 | exact hf0.2.2.2.2.2 | exact hf0.2.2.2.2.2.2 | exact hf0.2.2.2.2.2.2.2 | exact hf0.2.2.2.2.2.2.2.2 | exact hf0.2.2.2.2.2.2.2.2.2 | exact hf0.2.2.2.2.2.2.2.2.2.2 | exact hf0.2.2.2.2.2.2.2.2.2.2.2 | exact hf0.2.2.2.2.2.2.2.2.2.2.2.2 | exact hf0.2.2.2.2.2.2.2.2.2.2.2.2.2 | exact ((hpr.ext hq).cell hlt).2.1 | exact ((hpr.ext hq).cell hlt).2.2 | exact ((hpr.ext hq).cell hml).2.1 | exact ((hpr.ext hq).cell hml).2.2)
                case hs33 =>
                  repeat' (first
                    | exact FSteps.nil
                    | refine FSteps.cons ?_ ?_
                    | (refine FStep.off_ _ _ _ rfl rfl ?_ (fun _ => rfl) ?_; (focus (intro u w hd; simp [vOf, is, Region.binds] at hd; simp [hd])); (intro w'; exact rfl); done)
                    | ((first
                        | refine FStep.plain rfl ?_
                        | (refine FStep.on_ _ _ _ rfl rfl ?_ ?_; (focus (intro u w hd; simp [vOf, is, Region.binds] at hd; simp [hd]))))
                       intro u w hW hC hd K hK
                       (try simp [vOf, is, Region.binds] at hd)
                       simp only [upd, Nat.reduceEqDiff, if_true, if_false] at hK
                       (try simp only [hd] at hK)
                       go_simp
                       (first
                         | (refine hK _ _ ?_ ?_; (first | exact rfl); (repeat (first | exact Ext.refl _ | assumption | apply Ext.alloc | apply Ext.drew | apply Ext.drewN | (refine Ext.trans ?_ (by assumption))))))))
                case hV33 => (simp only [List.forall_mem_cons]; simp [stable_is])
                case fin33 =>
                  intro u w2 hW2 hC2 hd
                  simp only [AllV, is] at hd
                  simp only [hd]
                  clear hd
                  clear hC2 hx0 hy0 hx1 hy1 hcb1
                  go_wp2
                  go_roundw
                  case rel => exact ⟨k + 1, by omega, by go_num, by rw [lowO_pos l (by omega), lowTo_succ, ← HM.out, HS.out]; rfl, by (repeat (first | exact Ext.refl _ | assumption | apply Ext.alloc | apply Ext.drew | apply Ext.drewN | (refine Ext.trans ?_ (by assumption))))⟩
                  case measure => simp [intOf]; omega
          · have HS := hide (show lowB l k m = true by simp [lowB, e1])
            go_wp2_with (go_at_call 22; refine (sRoomOk_any _ _ _ _ (hp.ext (by (repeat (first | exact Ext.refl _ | assumption | apply Ext.alloc | apply Ext.drew | apply Ext.drewN | (refine Ext.trans ?_ (by assumption)))))) hn).mono ?_; rintro e w1 ⟨rfl, hb1⟩; have hcb1 := HB.out w1 (by (repeat (first | exact Ext.refl _ | assumption | apply Ext.alloc | apply Ext.drew | apply Ext.drewN | (refine Ext.trans ?_ (by assumption))))); have hpr : RPts w1 _ l := hp.ext (by (repeat (first | exact Ext.refl _ | assumption | apply Ext.alloc | apply Ext.drew | apply Ext.drewN | (refine Ext.trans ?_ (by assumption))))); obtain ⟨hz, hx0, hy0⟩ := hpr.cell hlt; obtain ⟨_, hx1, hy1⟩ := hpr.cell hml)
            obtain ⟨wx, rfl⟩ : ∃ wx : World, wx = w1 := ⟨_, rfl⟩
            refine wp_flow (by kernel_rfl) (by kernel_rfl) (fun u => ⟨#[_, _, _, _, _, _, _, _, _, _, _, _, _, _, _, _, u 0, u 1, u 2, u 3, u 4, u 5, u 6, u 7, u 8, u 9, u 10, u 11, u 12, u 13, u 14, u 15, u 16, u 17, u 18, u 19, u 20, u 21, u 22, u 23, u 24, u 25, u 26, u 27, u 28, u 29, u 30, u 31, u 32, u 33, u 34, u 35, u 36, u 37, u 38, u 39, u 40, u 41, u 42, u 43, u 44, u 45, u 46, _, _], _⟩) (fun i => List.getD [_, _, _, _, _, _, _, _, _, _, _, _, _, _, _, _, _, _, _, _, _, _, _, _, _, _, _, _, _, _, _, _, _, _, _, _, _, _, _, _, _, _, _, _, _, _, _] i undef) [is ?v34_0, is ?v34_1, is ?v34_2, is ?v34_3, is ?v34_4, is ?v34_5, is ?v34_6, is ?v34_7, is ?v34_8, is ?v34_9, is ?v34_10, is ?v34_11, is ?v34_12, is ?v34_13, is ?v34_14, is ?v34_15, is ?v34_16, is ?v34_17, is ?v34_18, is ?v34_19, is ?v34_20, is ?v34_21, is ?v34_22, is ?v34_23, is ?v34_24, is ?v34_25, is ?v34_26, is ?v34_27, is ?v34_28, is ?v34_29, is ?v34_30, is ?v34_31, is ?v34_32, is ?v34_33, is ?v34_34, is ?v34_35, is ?v34_36, is ?v34_37, is ?v34_38, is ?v34_39, is ?v34_40, is ?v34_41, is ?v34_42, is ?v34_43, is ?v34_44, is ?v34_45, is ?v34_46] (fun w' => w'.cell? ⟨w.heap.size, 0, none⟩ = some (.slice (some ⟨b, off, none⟩) l.length c) ∧ w.heap.size < w'.heap.size ∧ w'.cell? ⟨b, off + k * 2, none⟩ = some (.int .i64 (gx l (k))) ∧ w'.cell? ⟨b, off + k * 2 + 1, none⟩ = some (.int .i64 (gy l (k))) ∧ w'.cell? ⟨b, off + m * 2, none⟩ = some (.int .i64 (gx l (m))) ∧ w'.cell? ⟨b, off + m * 2 + 1, none⟩ = some (.int .i64 (gy l (m)))) _ rfl ?hC34 ?hs34 ?hV34 ?fin34
            case hC34 => exact fun w' hx => (by have hq : Ext _ w' := hx; have hf0 := HB.out w' (by (repeat (first | exact Ext.refl _ | assumption | apply Ext.alloc | apply Ext.drew | apply Ext.drewN | (refine Ext.trans ?_ (by assumption))))); and_intros <;> first | exact hf0 | exact hf0.1 | exact hf0.2.1 | exact hf0.2.2.1 | exact hf0.2.2.2.1 | exact hf0.2.2.2.2.1 | exact hf0.2.2.2.2.2.1 | exact hf0.2.2.2.2.2.2.1 | exact hf0.2.2.2.2.2.2.2.1 | exact hf0.2.2.2.2.2.2.2.2.1 | exact hf0.2.2.2.2.2.2.2.2.2.1 | exact hf0.2.2.2.2.2.2.2.2.2.2.1 | exact hf0.2.2.2.2.2.2.2.2.2.2.2.1 | exact hf0.2.2.2.2.2.2.2.2.2.2.2.2.1 | exact hf0.2.2.2.2.2.2.2.2.2.2.2.2.2.1 | exact hf0.2 | exact hf0.2.2 | exact hf0.2.2.2 | exact hf0.2.2.2.2 | exact hf0.2.2.2.2.2 | exact hf0.2.2.2.2.2.2 | exact hf0.2.2.2.2.2.2.2 | exact hf0.2.2.2.2.2.2.2.2 | exact hf0.2.2.2.2.2.2.2.2.2 | exact hf0.2.2.2.2.2.2.2.2.2.2 | exact hf0.2.2.2.2.2.2.2.2.2.2.2 | exact hf0.2.2.2.2.2.2.2.2.2.2.2.2 | exact hf0.2.2.2.2.2.2.2.2.2.2.2.2.2 | exact ((hpr.ext hq).cell hlt).2.1 | exact ((hpr.ext hq).cell hlt).2.2 | exact ((hpr.ext hq).cell hml).2.1 | exact ((hpr.ext hq).cell hml).2.2)
            case hs34 =>
              repeat' (first
                | exact FSteps.nil
                | refine FSteps.cons ?_ ?_
                | (refine FStep.off_ _ _ _ rfl rfl ?_ (fun _ => rfl) ?_; (focus (intro u w hd; simp [vOf, is, Region.binds] at hd; simp [hd])); (intro w'; exact rfl); done)
                | ((first
                    | refine FStep.plain rfl ?_
                    | (refine FStep.on_ _ _ _ rfl rfl ?_ ?_; (focus (intro u w hd; simp [vOf, is, Region.binds] at hd; simp [hd]))))
                   intro u w hW hC hd K hK
                   (try simp [vOf, is, Region.binds] at hd)
                   simp only [upd, Nat.reduceEqDiff, if_true, if_false] at hK
                   (try simp only [hd] at hK)
                   go_simp
                   (first
                     | (refine hK _ _ ?_ ?_; (first | exact rfl); (repeat (first | exact Ext.refl _ | assumption | apply Ext.alloc | apply Ext.drew | apply Ext.drewN | (refine Ext.trans ?_ (by assumption))))))))
            case hV34 => (simp only [List.forall_mem_cons]; simp [stable_is])
            case fin34 =>
              intro u w2 hW2 hC2 hd
              simp only [AllV, is] at hd
              simp only [hd]
              clear hd
              clear hC2 hx0 hy0 hx1 hy1 hcb1
              go_wp2
              go_roundw
              case rel => exact ⟨k + 1, by omega, by go_num, by rw [lowO_pos l (by omega), lowTo_succ, ← HM.out, HS.out]; rfl, by (repeat (first | exact Ext.refl _ | assumption | apply Ext.alloc | apply Ext.drew | apply Ext.drewN | (refine Ext.trans ?_ (by assumption))))⟩
              case measure => simp [intOf]; omega
      · have e : k = l.length := by omega
        have E := hide e
        clear e
        go_wp2
        go_ret
        exact ⟨ret_int (by rw [HV.out, E.out, lowO_pos l (by omega)]), by (repeat (first | exact Ext.refl _ | assumption | apply Ext.alloc | apply Ext.drew | apply Ext.drewN | (refine Ext.trans ?_ (by assumption))))⟩

end Go.Proofs.Ytngapnmegembaaa
