/-
  Contract: rooms that are apart (the reference's AreApart).
-/
import Derived.Test.YtmccffmkfdcmmaaApartP
import Derived.Test.YtmccffmkfdcmmaaSBlock
import Derived.Test.YtmccffmkfdcmmaaRowM
namespace Go.Proofs.Ytmccffmkfdcmmaa
open Go.RowKit

theorem holds_two {l : List (Int × Int)} {px py : Int} (hf : Fine l) (hq : pok px py = true) : decide (0 < holdsV l px py) = (placeV l px py == 2) := by
  have h := place_holds hf.small (within_more (within_of_pok hq) (N := 1000000) (by omega))
  have hb := holds_bd l px py
  rw [h, Bool.eq_iff_iff]
  simp only [decide_eq_true_eq, beq_iff_eq]
  omega

set_option maxRecDepth 100000 in
set_option maxHeartbeats 3200000 in
theorem l06Free_any (A B : Option Addr) (l ps : List (Int × Int)) (c d : Nat) (w : World) (hp : RPts w A l) (hq : RPts w B ps) (hf : Fine l) (hpk : ∀ p, p ∈ ps → pok p.1 p.2 = true) (hm : ps.length ≤ 1048576) :
    Calls Try.prog 47 #[.agg #[.slice A l.length c], .slice B ps.length d] w fun e w' => e = .returned (.bool (!insB l ps)) ∧ Ext w w' := by
  have hn : l.length ≤ 1048576 := by have := hf.2; omega
  have HF := hide hf
  have HP := hide hpk
  clear hf hpk
  have HB : Hid (∀ w', Ext (w.alloc (.cells #[.slice A l.length c] 29)) w' → w'.cell? ⟨w.heap.size, 0, none⟩ = some (.slice A l.length c) ∧ w.heap.size < w'.heap.size) := fun w' hx => by
    and_intros <;> (first | (have hz := hx.size; simp at hz; omega) | ((first | rw [hx.cells _ _ (by first | (simp; done) | (simp; omega))] | rw [hx.frozens _ _ (by first | (simp; done) | (simp; omega))]); (first | (simp [go_sem]; done) | (simp [go_sem, World.cell?_alloc_past]; done) | (simp [go_sem, World.frozen?]; done))))
  go_enter Try.func47, Try.ntmps47
  go_wp2
  go_loopw [5] (fun i wr => ∃ k : Nat, k ≤ ps.length ∧ i = .int .i64 k ∧ Ext (w.alloc (.cells #[.slice A l.length c] 29)) wr ∧ Hid (∀ j, j < k → (placeV l (gx ps j) (gy ps j) == 2) = false)) (fun i _ => ps.length - (intOf i).toNat)
  case atStart => exact ⟨0, Nat.zero_le _, rfl, by (repeat (first | exact Ext.refl _ | assumption | apply Ext.alloc | apply Ext.drew | apply Ext.drewN | (refine Ext.trans ?_ (by assumption)))), hide (fun j hj => absurd hj (by omega))⟩
  case round =>
    obtain ⟨k, hk, rfl, hbl, HN⟩ := hrel
    obtain ⟨wq, rfl⟩ : ∃ wq : World, wq = wr := ⟨_, rfl⟩
    have fb := HB.out wq (by (repeat (first | exact Ext.refl _ | assumption | apply Ext.alloc | apply Ext.drew | apply Ext.drewN | (refine Ext.trans ?_ (by assumption)))))
    by_cases hlt : k < ps.length
    · have q2 : (k : Int) < (ps.length : Int) := by omega
      have hpr := hq.ext (show Ext w wq by (repeat (first | exact Ext.refl _ | assumption | apply Ext.alloc | apply Ext.drew | apply Ext.drewN | (refine Ext.trans ?_ (by assumption)))))
      obtain ⟨b, off, rfl⟩ := hpr.some_ (by omega)
      have HT := hide (holds_two HF.out (HP.out _ (g_mem hlt)))
      cases hv : decide (0 < holdsV l (gx ps k) (gy ps k))
      · have HV := hide (show (placeV l (gx ps k) (gy ps k) == 2) = false from HT.out.symm.trans hv)
        go_wp2
        refine wp_flow (by kernel_rfl) (by kernel_rfl) (fun u => ⟨#[_, _, _, _, _, _, _, _, _, _, _, _, u 0, u 1, u 2, u 3, u 4, u 5, u 6, u 7], _⟩) (fun i => List.getD [_, _, _, _, _, _, _, _] i undef) [is ?v1_0, is ?v1_1, is ?v1_2, is ?v1_3, is ?v1_4, is ?v1_5, is ?v1_6, is ?v1_7] (fun w' => w'.cell? ⟨w.heap.size, 0, none⟩ = some (.slice A l.length c) ∧ w.heap.size < w'.heap.size ∧ w'.cell? ⟨b, off + k * 2, none⟩ = some (.int .i64 (gx ps (k))) ∧ w'.cell? ⟨b, off + k * 2 + 1, none⟩ = some (.int .i64 (gy ps (k)))) _ rfl ?hC1 ?hs1 ?hV1 ?fin1
        case hC1 => exact fun w' hx => (by have hq : Ext _ w' := hx; have hf0 := HB.out w' (by (repeat (first | exact Ext.refl _ | assumption | apply Ext.alloc | apply Ext.drew | apply Ext.drewN | (refine Ext.trans ?_ (by assumption))))); and_intros <;> first | exact hf0 | exact hf0.1 | exact hf0.2.1 | exact hf0.2.2.1 | exact hf0.2.2.2.1 | exact hf0.2.2.2.2.1 | exact hf0.2.2.2.2.2.1 | exact hf0.2.2.2.2.2.2.1 | exact hf0.2.2.2.2.2.2.2.1 | exact hf0.2.2.2.2.2.2.2.2.1 | exact hf0.2.2.2.2.2.2.2.2.2.1 | exact hf0.2.2.2.2.2.2.2.2.2.2.1 | exact hf0.2.2.2.2.2.2.2.2.2.2.2.1 | exact hf0.2.2.2.2.2.2.2.2.2.2.2.2.1 | exact hf0.2.2.2.2.2.2.2.2.2.2.2.2.2.1 | exact hf0.2 | exact hf0.2.2 | exact hf0.2.2.2 | exact hf0.2.2.2.2 | exact hf0.2.2.2.2.2 | exact hf0.2.2.2.2.2.2 | exact hf0.2.2.2.2.2.2.2 | exact hf0.2.2.2.2.2.2.2.2 | exact hf0.2.2.2.2.2.2.2.2.2 | exact hf0.2.2.2.2.2.2.2.2.2.2 | exact hf0.2.2.2.2.2.2.2.2.2.2.2 | exact hf0.2.2.2.2.2.2.2.2.2.2.2.2 | exact hf0.2.2.2.2.2.2.2.2.2.2.2.2.2 | exact ((hpr.ext hq).cell hlt).2.1 | exact ((hpr.ext hq).cell hlt).2.2)
        case hs1 =>
          repeat' (first
            | exact FSteps.nil
            | refine FSteps.cons ?_ ?_
            | (refine FStep.off_ _ _ _ rfl rfl ?_ (fun _ => rfl) ?_; (focus (intro u w hd; simp [vOf, is, Region.binds] at hd; simp [hd])); (intro w'; exact rfl); done)
            | ((first
                | refine FStep.plain rfl ?_
                | (refine FStep.on_ _ _ _ rfl rfl ?_ ?_; (focus (intro u w hd; simp [vOf, is, Region.binds] at hd; simp [hd]))))
               intro u w hW hC hd K hK
               (try simp [vOf, is, Region.binds] at hd)
               simp only [upd, Nat.reduceEqDiff, if_true, if_false] at hK
               (try simp only [hd] at hK)
               go_simp
               (first
                 | (refine hK _ _ ?_ ?_; (first | exact rfl); (repeat (first | exact Ext.refl _ | assumption | apply Ext.alloc | apply Ext.drew | apply Ext.drewN | (refine Ext.trans ?_ (by assumption)))))
                 | (go_at_call 72; refine (sHolds_any _ _ _ _ _ _ (hp.ext (by (repeat (first | exact Ext.refl _ | assumption | apply Ext.alloc | apply Ext.drew | apply Ext.drewN | (refine Ext.trans ?_ (by assumption)))))) hn).mono ?_; rintro e w1 ⟨rfl, hb⟩; (try go_simp); refine hK _ _ ?_ ?_; (first | exact rfl); (repeat (first | exact Ext.refl _ | assumption | apply Ext.alloc | apply Ext.drew | apply Ext.drewN | (refine Ext.trans ?_ (by assumption))))))))
        case hV1 => (simp only [List.forall_mem_cons]; simp [stable_is])
        intro u w2 hW2 hC2 hd
        simp only [AllV, is] at hd
        simp only [hd]
        clear hd
        clear hC2 fb
        go_wp2
        go_roundw
        case rel => exact ⟨k + 1, by omega, by go_num, by (repeat (first | exact Ext.refl _ | assumption | apply Ext.alloc | apply Ext.drew | apply Ext.drewN | (refine Ext.trans ?_ (by assumption)))), hide (fun j hj => by by_cases e : j = k; (subst e; exact HV.out); exact HN.out j (by omega))⟩
        case measure => simp [intOf]; omega
      · have HV := hide (insB_at hlt (HT.out.symm.trans hv))
        go_wp2
        refine wp_flow (by kernel_rfl) (by kernel_rfl) (fun u => ⟨#[_, _, _, _, _, _, _, _, _, _, _, _, u 0, u 1, u 2, u 3, u 4, u 5, u 6, u 7], _⟩) (fun i => List.getD [_, _, _, _, _, _, _, _] i undef) [is ?v2_0, is ?v2_1, is ?v2_2, is ?v2_3, is ?v2_4, is ?v2_5, is ?v2_6, is ?v2_7] (fun w' => w'.cell? ⟨w.heap.size, 0, none⟩ = some (.slice A l.length c) ∧ w.heap.size < w'.heap.size ∧ w'.cell? ⟨b, off + k * 2, none⟩ = some (.int .i64 (gx ps (k))) ∧ w'.cell? ⟨b, off + k * 2 + 1, none⟩ = some (.int .i64 (gy ps (k)))) _ rfl ?hC2 ?hs2 ?hV2 ?fin2
        case hC2 => exact fun w' hx => (by have hq : Ext _ w' := hx; have hf0 := HB.out w' (by (repeat (first | exact Ext.refl _ | assumption | apply Ext.alloc | apply Ext.drew | apply Ext.drewN | (refine Ext.trans ?_ (by assumption))))); and_intros <;> first | exact hf0 | exact hf0.1 | exact hf0.2.1 | exact hf0.2.2.1 | exact hf0.2.2.2.1 | exact hf0.2.2.2.2.1 | exact hf0.2.2.2.2.2.1 | exact hf0.2.2.2.2.2.2.1 | exact hf0.2.2.2.2.2.2.2.1 | exact hf0.2.2.2.2.2.2.2.2.1 | exact hf0.2.2.2.2.2.2.2.2.2.1 | exact hf0.2.2.2.2.2.2.2.2.2.2.1 | exact hf0.2.2.2.2.2.2.2.2.2.2.2.1 | exact hf0.2.2.2.2.2.2.2.2.2.2.2.2.1 | exact hf0.2.2.2.2.2.2.2.2.2.2.2.2.2.1 | exact hf0.2 | exact hf0.2.2 | exact hf0.2.2.2 | exact hf0.2.2.2.2 | exact hf0.2.2.2.2.2 | exact hf0.2.2.2.2.2.2 | exact hf0.2.2.2.2.2.2.2 | exact hf0.2.2.2.2.2.2.2.2 | exact hf0.2.2.2.2.2.2.2.2.2 | exact hf0.2.2.2.2.2.2.2.2.2.2 | exact hf0.2.2.2.2.2.2.2.2.2.2.2 | exact hf0.2.2.2.2.2.2.2.2.2.2.2.2 | exact hf0.2.2.2.2.2.2.2.2.2.2.2.2.2 | exact ((hpr.ext hq).cell hlt).2.1 | exact ((hpr.ext hq).cell hlt).2.2)
        case hs2 =>
          repeat' (first
            | exact FSteps.nil
            | refine FSteps.cons ?_ ?_
            | (refine FStep.off_ _ _ _ rfl rfl ?_ (fun _ => rfl) ?_; (focus (intro u w hd; simp [vOf, is, Region.binds] at hd; simp [hd])); (intro w'; exact rfl); done)
            | ((first
                | refine FStep.plain rfl ?_
                | (refine FStep.on_ _ _ _ rfl rfl ?_ ?_; (focus (intro u w hd; simp [vOf, is, Region.binds] at hd; simp [hd]))))
               intro u w hW hC hd K hK
               (try simp [vOf, is, Region.binds] at hd)
               simp only [upd, Nat.reduceEqDiff, if_true, if_false] at hK
               (try simp only [hd] at hK)
               go_simp
               (first
                 | (refine hK _ _ ?_ ?_; (first | exact rfl); (repeat (first | exact Ext.refl _ | assumption | apply Ext.alloc | apply Ext.drew | apply Ext.drewN | (refine Ext.trans ?_ (by assumption)))))
                 | (go_at_call 72; refine (sHolds_any _ _ _ _ _ _ (hp.ext (by (repeat (first | exact Ext.refl _ | assumption | apply Ext.alloc | apply Ext.drew | apply Ext.drewN | (refine Ext.trans ?_ (by assumption)))))) hn).mono ?_; rintro e w1 ⟨rfl, hb⟩; (try go_simp); refine hK _ _ ?_ ?_; (first | exact rfl); (repeat (first | exact Ext.refl _ | assumption | apply Ext.alloc | apply Ext.drew | apply Ext.drewN | (refine Ext.trans ?_ (by assumption))))))))
        case hV2 => (simp only [List.forall_mem_cons]; simp [stable_is])
        intro u w2 hW2 hC2 hd
        simp only [AllV, is] at hd
        simp only [hd]
        clear hd
        clear hC2 fb
        go_wp2
        go_ret
        exact ⟨ret_bool (by rw [HV.out]; rfl), by (repeat (first | exact Ext.refl _ | assumption | apply Ext.alloc | apply Ext.drew | apply Ext.drewN | (refine Ext.trans ?_ (by assumption))))⟩
    · have q2 : ¬ (k : Int) < (ps.length : Int) := by omega
      have HV := hide (insB_no (l := l) (ps := ps) (fun j hj => HN.out j (by omega)))
      go_wp2
      go_ret
      exact ⟨ret_bool (by rw [HV.out]; rfl), by (repeat (first | exact Ext.refl _ | assumption | apply Ext.alloc | apply Ext.drew | apply Ext.drewN | (refine Ext.trans ?_ (by assumption))))⟩

theorem dc_eq {a b : List (Int × Int)} (ha : roomB a = true) (hb : roomB b = true) {i k : Nat} (hi : i < a.length) (hk : k < b.length) : doCrossV (gx a i) (gy a i) (gx a (nx a i)) (gy a (nx a i)) (gx b k) (gy b k) (gx b (nx b k)) (gy b (nx b k)) = xE a b i k := by
  unfold doCrossV xE
  rw [room_wok ha hi, room_wok hb hk]
  rfl



set_option maxRecDepth 100000 in
set_option maxHeartbeats 6400000 in
theorem sAreApart_any (A B : Option Addr) (l r : List (Int × Int)) (c d : Nat) (w : World) (hp : RPts w A l) (hq : RPts w B r) (hn : l.length ≤ 1048576) (hm : r.length ≤ 1048576) :
    Calls Try.prog 12 #[.agg #[.slice A l.length c], .agg #[.slice B r.length d]] w fun e w' => e = .returned (.bool (apV l r)) ∧ Ext w w' := by
  have HB : Hid (∀ w', Ext ((w.alloc (.cells #[.slice A l.length c] 29)).alloc (.cells #[.slice B r.length d] 29)) w' → w'.cell? ⟨w.heap.size, 0, none⟩ = some (.slice A l.length c) ∧ w.heap.size < w'.heap.size ∧ w'.cell? ⟨w.heap.size + 1, 0, none⟩ = some (.slice B r.length d) ∧ w.heap.size + 1 < w'.heap.size) := fun w' hx => by
    and_intros <;> (first | (have hz := hx.size; simp at hz; omega) | ((first | rw [hx.cells _ _ (by first | (simp; done) | (simp; omega))] | rw [hx.frozens _ _ (by first | (simp; done) | (simp; omega))]); (first | (simp [go_sem]; done) | (simp [go_sem, World.cell?_alloc_past]; done) | (simp [go_sem, World.frozen?]; done))))
  cases r1 : roomB l
  · have HV := hide (show apV l r = false by unfold apV; rw [r1]; rfl)
    go_enter Try.func12, Try.ntmps12
    go_wp2_with (go_at_call 44; refine (sRoomOk_any _ _ _ _ (hp.ext (by (repeat (first | exact Ext.refl _ | assumption | apply Ext.alloc | apply Ext.drew | apply Ext.drewN | (refine Ext.trans ?_ (by assumption)))))) hn).mono ?_; rw [r1]; rintro e w1 ⟨rfl, hb1⟩)
    go_ret
    exact ⟨ret_bool (by rw [HV.out]), by (repeat (first | exact Ext.refl _ | assumption | apply Ext.alloc | apply Ext.drew | apply Ext.drewN | (refine Ext.trans ?_ (by assumption))))⟩
  · cases r2 : roomB r
    · have HV := hide (show apV l r = false by unfold apV; rw [r1, r2]; rfl)
      go_enter Try.func12, Try.ntmps12
      go_wp2_with fail
      refine (sRoomOk_any _ _ _ _ (hp.ext (by (repeat (first | exact Ext.refl _ | assumption | apply Ext.alloc | apply Ext.drew | apply Ext.drewN | (refine Ext.trans ?_ (by assumption)))))) hn).mono ?_
      rw [r1]
      rintro e w1 ⟨rfl, hb1⟩
      have f1 := HB.out w1 (by (repeat (first | exact Ext.refl _ | assumption | apply Ext.alloc | apply Ext.drew | apply Ext.drewN | (refine Ext.trans ?_ (by assumption)))))
      go_wp2_with fail
      refine (sRoomOk_any _ _ _ _ (hq.ext (by (repeat (first | exact Ext.refl _ | assumption | apply Ext.alloc | apply Ext.drew | apply Ext.drewN | (refine Ext.trans ?_ (by assumption)))))) hm).mono ?_
      rw [r2]
      rintro e w2 ⟨rfl, hb2⟩
      go_wp2
      go_ret
      exact ⟨ret_bool (by rw [HV.out]), by (repeat (first | exact Ext.refl _ | assumption | apply Ext.alloc | apply Ext.drew | apply Ext.drewN | (refine Ext.trans ?_ (by assumption))))⟩
    · have R1 := hide r1
      have R2 := hide r2
      have HV := hide (show apV l r = (allX l r l.length && (!insB l (floorL r) && !insB r (floorL l))) by unfold apV; rw [r1, r2, Bool.and_comm (!insB r (floorL l))]; rfl)
      have F1 := hide (show floorV l = floorL l by unfold floorV; rw [r1]; rfl)
      have F2 := hide (show floorV r = floorL r by unfold floorV; rw [r2]; rfl)
      have FL1 := floorL_le (roomB_fine r1).1 (by have := (roomB_fine r1).2; omega)
      have FL2 := floorL_le (roomB_fine r2).1 (by have := (roomB_fine r2).2; omega)
      go_enter Try.func12, Try.ntmps12
      go_wp2_with fail
      refine (sRoomOk_any _ _ _ _ (hp.ext (by (repeat (first | exact Ext.refl _ | assumption | apply Ext.alloc | apply Ext.drew | apply Ext.drewN | (refine Ext.trans ?_ (by assumption)))))) hn).mono ?_
      rw [r1]
      rintro e w1 ⟨rfl, hb1⟩
      have f1 := HB.out w1 (by (repeat (first | exact Ext.refl _ | assumption | apply Ext.alloc | apply Ext.drew | apply Ext.drewN | (refine Ext.trans ?_ (by assumption)))))
      go_wp2_with fail
      refine (sRoomOk_any _ _ _ _ (hq.ext (by (repeat (first | exact Ext.refl _ | assumption | apply Ext.alloc | apply Ext.drew | apply Ext.drewN | (refine Ext.trans ?_ (by assumption)))))) hm).mono ?_
      rw [r2]
      rintro e wa ⟨rfl, hb2⟩
      clear f1 r1 r2
      go_wp2
      go_loopw [5] (fun iv wr => ∃ i : Nat, i ≤ l.length ∧ iv = .int .i64 i ∧ Ext wa wr ∧ Hid (allX l r i = true)) (fun iv _ => l.length - (intOf iv).toNat)
      case atStart => exact ⟨0, Nat.zero_le _, rfl, Ext.refl _, hide rfl⟩
      case round =>
        obtain ⟨i, hi, rfl, hbi, HX⟩ := hrel
        obtain ⟨wi, rfl⟩ : ∃ wi : World, wi = wr := ⟨_, rfl⟩
        have fb := HB.out wi (by (repeat (first | exact Ext.refl _ | assumption | apply Ext.alloc | apply Ext.drew | apply Ext.drewN | (refine Ext.trans ?_ (by assumption)))))
        by_cases hli : i < l.length
        · have q2 : (i : Int) < (l.length : Int) := by omega
          go_wp2
          clear fb
          go_loopw [6] (fun kv wr => ∃ k : Nat, k ≤ r.length ∧ kv = .int .i64 k ∧ Ext wi wr ∧ Hid (rowX l r i k = true)) (fun kv _ => r.length - (intOf kv).toNat)
          case atStart => exact ⟨0, Nat.zero_le _, rfl, Ext.refl _, hide rfl⟩
          case round =>
            obtain ⟨k, hk, rfl, hbk, HK⟩ := hrel
            obtain ⟨wk, rfl⟩ : ∃ wk : World, wk = wr := ⟨_, rfl⟩
            have fb := HB.out wk (by (repeat (first | exact Ext.refl _ | assumption | apply Ext.alloc | apply Ext.drew | apply Ext.drewN | (refine Ext.trans ?_ (by assumption)))))
            by_cases hlk : k < r.length
            · have q3 : (k : Int) < (r.length : Int) := by omega
              have hd1 := dc_eq R1.out R2.out hli hlk
              cases ho : xE l r i k
              · have HO := hide (show rowX l r i (k + 1) = true by rw [rowX_succ, HK.out, ho]; rfl)
                rw [ho] at hd1
                go_wp2
                refine wp_flow (by kernel_rfl) (by kernel_rfl) (fun u => ⟨#[_, _, _, _, _, _, _, _, _, _, _, _, _, _, _, _, _, _, _, _, _, _, _, _, _, _, _, _, _, u 0, u 1, u 2, u 3, u 4, u 5, u 6, _, _, _, _, _, _, _, _, _, _], _⟩) (fun i => List.getD [_, _, _, _, _, _, _] i undef) [is ?v3_0, is ?v3_1, is ?v3_2, is ?v3_3, is ?v3_4, is ?v3_5, is ?v3_6] (fun w' => w'.cell? ⟨w.heap.size, 0, none⟩ = some (.slice A l.length c) ∧ w.heap.size < w'.heap.size ∧ w'.cell? ⟨w.heap.size + 1, 0, none⟩ = some (.slice B r.length d) ∧ w.heap.size + 1 < w'.heap.size) _ rfl ?hC3 ?hs3 ?hV3 ?fin3
                case hC3 => exact fun w' hx => (by have hq : Ext _ w' := hx; have hf0 := HB.out w' (by (repeat (first | exact Ext.refl _ | assumption | apply Ext.alloc | apply Ext.drew | apply Ext.drewN | (refine Ext.trans ?_ (by assumption))))); and_intros <;> first | exact hf0 | exact hf0.1 | exact hf0.2.1 | exact hf0.2.2.1 | exact hf0.2.2.2.1 | exact hf0.2.2.2.2.1 | exact hf0.2.2.2.2.2.1 | exact hf0.2.2.2.2.2.2.1 | exact hf0.2.2.2.2.2.2.2.1 | exact hf0.2.2.2.2.2.2.2.2.1 | exact hf0.2.2.2.2.2.2.2.2.2.1 | exact hf0.2.2.2.2.2.2.2.2.2.2.1 | exact hf0.2.2.2.2.2.2.2.2.2.2.2.1 | exact hf0.2.2.2.2.2.2.2.2.2.2.2.2.1 | exact hf0.2.2.2.2.2.2.2.2.2.2.2.2.2.1 | exact hf0.2 | exact hf0.2.2 | exact hf0.2.2.2 | exact hf0.2.2.2.2 | exact hf0.2.2.2.2.2 | exact hf0.2.2.2.2.2.2 | exact hf0.2.2.2.2.2.2.2 | exact hf0.2.2.2.2.2.2.2.2 | exact hf0.2.2.2.2.2.2.2.2.2 | exact hf0.2.2.2.2.2.2.2.2.2.2 | exact hf0.2.2.2.2.2.2.2.2.2.2.2 | exact hf0.2.2.2.2.2.2.2.2.2.2.2.2 | exact hf0.2.2.2.2.2.2.2.2.2.2.2.2.2)
                case hs3 =>
                  repeat' (first
                    | exact FSteps.nil
                    | refine FSteps.cons ?_ ?_
                    | (refine FStep.off_ _ _ _ rfl rfl ?_ (fun _ => rfl) ?_; (focus (intro u w hd; simp [vOf, is, Region.binds] at hd; simp [hd])); (intro w'; exact rfl); done)
                    | ((first
                        | refine FStep.plain rfl ?_
                        | (refine FStep.on_ _ _ _ rfl rfl ?_ ?_; (focus (intro u w hd; simp [vOf, is, Region.binds] at hd; simp [hd]))))
                       intro u w hW hC hd K hK
                       (try simp [vOf, is, Region.binds] at hd)
                       simp only [upd, Nat.reduceEqDiff, if_true, if_false] at hK
                       (try simp only [hd] at hK)
                       go_simp
                       (first
                         | (refine hK _ _ ?_ ?_; (first | exact rfl); (repeat (first | exact Ext.refl _ | assumption | apply Ext.alloc | apply Ext.drew | apply Ext.drewN | (refine Ext.trans ?_ (by assumption)))))
                         | (go_at_call 46; refine (sWallOf_yes _ _ _ _ _ (by first | exact hp.ext (by (repeat (first | exact Ext.refl _ | assumption | apply Ext.alloc | apply Ext.drew | apply Ext.drewN | (refine Ext.trans ?_ (by assumption))))) | exact hq.ext (by (repeat (first | exact Ext.refl _ | assumption | apply Ext.alloc | apply Ext.drew | apply Ext.drewN | (refine Ext.trans ?_ (by assumption)))))) (by first | exact hn | exact hm) (by first | exact hli | exact hlk) (by first | exact R1.out | exact R2.out)).mono ?_; unfold wallA; rintro e w1 ⟨rfl, hb⟩; (try go_simp); refine hK _ _ ?_ ?_; exact rfl; (repeat (first | exact Ext.refl _ | assumption | apply Ext.alloc | apply Ext.drew | apply Ext.drewN | (refine Ext.trans ?_ (by assumption)))))
                         | (go_at_call 45; refine (sDoCross_any _ _ _ _ _ _ _ _ _).mono ?_; rw [hd1]; rintro e w1 ⟨rfl, hb⟩; (try go_simp); refine hK _ _ ?_ ?_; (first | exact rfl); (repeat (first | exact Ext.refl _ | assumption | apply Ext.alloc | apply Ext.drew | apply Ext.drewN | (refine Ext.trans ?_ (by assumption))))))))
                case hV3 => (simp only [List.forall_mem_cons]; simp [stable_is])
                intro u w2 hW2 hC2 hd
                simp only [AllV, is] at hd
                simp only [hd]
                clear hd
                clear hC2
                go_wp2
                go_roundw
                case rel => exact ⟨k + 1, by omega, by go_num, by (repeat (first | exact Ext.refl _ | assumption | apply Ext.alloc | apply Ext.drew | apply Ext.drewN | (refine Ext.trans ?_ (by assumption)))), HO⟩
                case measure => simp [intOf]; omega
              · have HW := hide (apV_cross hli hlk ho)
                rw [ho] at hd1
                go_wp2
                refine wp_flow (by kernel_rfl) (by kernel_rfl) (fun u => ⟨#[_, _, _, _, _, _, _, _, _, _, _, _, _, _, _, _, _, _, _, _, _, _, _, _, _, _, _, _, _, u 0, u 1, u 2, u 3, u 4, u 5, u 6, _, _, _, _, _, _, _, _, _, _], _⟩) (fun i => List.getD [_, _, _, _, _, _, _] i undef) [is ?v4_0, is ?v4_1, is ?v4_2, is ?v4_3, is ?v4_4, is ?v4_5, is ?v4_6] (fun w' => w'.cell? ⟨w.heap.size, 0, none⟩ = some (.slice A l.length c) ∧ w.heap.size < w'.heap.size ∧ w'.cell? ⟨w.heap.size + 1, 0, none⟩ = some (.slice B r.length d) ∧ w.heap.size + 1 < w'.heap.size) _ rfl ?hC4 ?hs4 ?hV4 ?fin4
                case hC4 => exact fun w' hx => (by have hq : Ext _ w' := hx; have hf0 := HB.out w' (by (repeat (first | exact Ext.refl _ | assumption | apply Ext.alloc | apply Ext.drew | apply Ext.drewN | (refine Ext.trans ?_ (by assumption))))); and_intros <;> first | exact hf0 | exact hf0.1 | exact hf0.2.1 | exact hf0.2.2.1 | exact hf0.2.2.2.1 | exact hf0.2.2.2.2.1 | exact hf0.2.2.2.2.2.1 | exact hf0.2.2.2.2.2.2.1 | exact hf0.2.2.2.2.2.2.2.1 | exact hf0.2.2.2.2.2.2.2.2.1 | exact hf0.2.2.2.2.2.2.2.2.2.1 | exact hf0.2.2.2.2.2.2.2.2.2.2.1 | exact hf0.2.2.2.2.2.2.2.2.2.2.2.1 | exact hf0.2.2.2.2.2.2.2.2.2.2.2.2.1 | exact hf0.2.2.2.2.2.2.2.2.2.2.2.2.2.1 | exact hf0.2 | exact hf0.2.2 | exact hf0.2.2.2 | exact hf0.2.2.2.2 | exact hf0.2.2.2.2.2 | exact hf0.2.2.2.2.2.2 | exact hf0.2.2.2.2.2.2.2 | exact hf0.2.2.2.2.2.2.2.2 | exact hf0.2.2.2.2.2.2.2.2.2 | exact hf0.2.2.2.2.2.2.2.2.2.2 | exact hf0.2.2.2.2.2.2.2.2.2.2.2 | exact hf0.2.2.2.2.2.2.2.2.2.2.2.2 | exact hf0.2.2.2.2.2.2.2.2.2.2.2.2.2)
                case hs4 =>
                  repeat' (first
                    | exact FSteps.nil
                    | refine FSteps.cons ?_ ?_
                    | (refine FStep.off_ _ _ _ rfl rfl ?_ (fun _ => rfl) ?_; (focus (intro u w hd; simp [vOf, is, Region.binds] at hd; simp [hd])); (intro w'; exact rfl); done)
                    | ((first
                        | refine FStep.plain rfl ?_
                        | (refine FStep.on_ _ _ _ rfl rfl ?_ ?_; (focus (intro u w hd; simp [vOf, is, Region.binds] at hd; simp [hd]))))
                       intro u w hW hC hd K hK
                       (try simp [vOf, is, Region.binds] at hd)
                       simp only [upd, Nat.reduceEqDiff, if_true, if_false] at hK
                       (try simp only [hd] at hK)
                       go_simp
                       (first
                         | (refine hK _ _ ?_ ?_; (first | exact rfl); (repeat (first | exact Ext.refl _ | assumption | apply Ext.alloc | apply Ext.drew | apply Ext.drewN | (refine Ext.trans ?_ (by assumption)))))
                         | (go_at_call 46; refine (sWallOf_yes _ _ _ _ _ (by first | exact hp.ext (by (repeat (first | exact Ext.refl _ | assumption | apply Ext.alloc | apply Ext.drew | apply Ext.drewN | (refine Ext.trans ?_ (by assumption))))) | exact hq.ext (by (repeat (first | exact Ext.refl _ | assumption | apply Ext.alloc | apply Ext.drew | apply Ext.drewN | (refine Ext.trans ?_ (by assumption)))))) (by first | exact hn | exact hm) (by first | exact hli | exact hlk) (by first | exact R1.out | exact R2.out)).mono ?_; unfold wallA; rintro e w1 ⟨rfl, hb⟩; (try go_simp); refine hK _ _ ?_ ?_; exact rfl; (repeat (first | exact Ext.refl _ | assumption | apply Ext.alloc | apply Ext.drew | apply Ext.drewN | (refine Ext.trans ?_ (by assumption)))))
                         | (go_at_call 45; refine (sDoCross_any _ _ _ _ _ _ _ _ _).mono ?_; rw [hd1]; rintro e w1 ⟨rfl, hb⟩; (try go_simp); refine hK _ _ ?_ ?_; (first | exact rfl); (repeat (first | exact Ext.refl _ | assumption | apply Ext.alloc | apply Ext.drew | apply Ext.drewN | (refine Ext.trans ?_ (by assumption))))))))
                case hV4 => (simp only [List.forall_mem_cons]; simp [stable_is])
                intro u w2 hW2 hC2 hd
                simp only [AllV, is] at hd
                simp only [hd]
                clear hd
                clear hC2
                go_wp2
                go_ret
                exact ⟨ret_bool (by rw [HW.out]), by (repeat (first | exact Ext.refl _ | assumption | apply Ext.alloc | apply Ext.drew | apply Ext.drewN | (refine Ext.trans ?_ (by assumption))))⟩
            · have q3 : ¬ (k : Int) < (r.length : Int) := by omega
              have HO := hide (show allX l r (i + 1) = true by have h := HK.out; rw [show k = r.length by omega] at h; rw [allX_succ, HX.out, h]; rfl)
              go_wp2
              go_roundw
              case rel => exact ⟨i + 1, by omega, by go_num, by (repeat (first | exact Ext.refl _ | assumption | apply Ext.alloc | apply Ext.drew | apply Ext.drewN | (refine Ext.trans ?_ (by assumption)))), HO⟩
              case measure => simp [intOf]; omega
        · have q2 : ¬ (i : Int) < (l.length : Int) := by omega
          have HO := hide (show allX l r l.length = true by rw [show l.length = i by omega]; exact HX.out)
          have P1 := hide (floor_pok R1.out)
          have P2 := hide (floor_pok R2.out)
          clear HX
          generalize floorL r = FR at *
          generalize floorL l = FL at *
          cases hin : insB l FR
          · have HI := hide hin
            go_wp2
            refine wp_flow (by kernel_rfl) (by kernel_rfl) (fun u => ⟨#[_, _, _, _, u 10, _, _, _, _, _, _, _, _, _, _, _, _, _, _, _, _, _, _, _, _, _, _, _, _, _, _, _, _, _, _, _, u 0, u 1, u 2, u 3, u 4, u 5, u 6, u 7, u 8, u 9], _⟩) (fun i => List.getD [_, _, _, _, _, _, _, _, _, _, _] i undef) [is ?v5_0, is ?v5_1, (RowS wi.heap.size 35 FR), is ?v5_3, is ?v5_4, is ?v5_5, is ?v5_6, (RowS wi.heap.size 35 FL), is ?v5_8, is ?v5_9, is ?v5_10] (fun w' => w'.cell? ⟨w.heap.size, 0, none⟩ = some (.slice A l.length c) ∧ w.heap.size < w'.heap.size ∧ w'.cell? ⟨w.heap.size + 1, 0, none⟩ = some (.slice B r.length d) ∧ w.heap.size + 1 < w'.heap.size) _ rfl ?hC5 ?hs5 ?hV5 ?fin5
            case hC5 => exact fun w' hx => (by have hq : Ext _ w' := hx; have hf0 := HB.out w' (by (repeat (first | exact Ext.refl _ | assumption | apply Ext.alloc | apply Ext.drew | apply Ext.drewN | (refine Ext.trans ?_ (by assumption))))); and_intros <;> first | exact hf0 | exact hf0.1 | exact hf0.2.1 | exact hf0.2.2.1 | exact hf0.2.2.2.1 | exact hf0.2.2.2.2.1 | exact hf0.2.2.2.2.2.1 | exact hf0.2.2.2.2.2.2.1 | exact hf0.2.2.2.2.2.2.2.1 | exact hf0.2.2.2.2.2.2.2.2.1 | exact hf0.2.2.2.2.2.2.2.2.2.1 | exact hf0.2.2.2.2.2.2.2.2.2.2.1 | exact hf0.2.2.2.2.2.2.2.2.2.2.2.1 | exact hf0.2.2.2.2.2.2.2.2.2.2.2.2.1 | exact hf0.2.2.2.2.2.2.2.2.2.2.2.2.2.1 | exact hf0.2 | exact hf0.2.2 | exact hf0.2.2.2 | exact hf0.2.2.2.2 | exact hf0.2.2.2.2.2 | exact hf0.2.2.2.2.2.2 | exact hf0.2.2.2.2.2.2.2 | exact hf0.2.2.2.2.2.2.2.2 | exact hf0.2.2.2.2.2.2.2.2.2 | exact hf0.2.2.2.2.2.2.2.2.2.2 | exact hf0.2.2.2.2.2.2.2.2.2.2.2 | exact hf0.2.2.2.2.2.2.2.2.2.2.2.2 | exact hf0.2.2.2.2.2.2.2.2.2.2.2.2.2)
            case hs5 =>
              repeat' (first
                | exact FSteps.nil
                | refine FSteps.cons ?_ ?_
                | (refine FStep.off_ _ _ _ rfl rfl ?_ (fun _ => rfl) ?_; (focus (intro u w hd; simp [vOf, is, Region.binds] at hd; simp [hd])); (intro w'; exact rfl); done)
                | ((first
                    | refine FStep.plain rfl ?_
                    | (refine FStep.on_ _ _ _ rfl rfl ?_ ?_; (focus (intro u w hd; simp [vOf, is, Region.binds] at hd; simp [hd]))))
                   intro u w hW hC hd K hK
                   (try simp [vOf, is, Region.binds] at hd)
                   simp only [upd, Nat.reduceEqDiff, if_true, if_false] at hK
                   (try simp only [hd] at hK)
                   go_simp
                   (first
                     | (refine hK _ _ ?_ ?_; (first | exact rfl); (repeat (first | exact Ext.refl _ | assumption | apply Ext.alloc | apply Ext.drew | apply Ext.drewN | (refine Ext.trans ?_ (by assumption)))))
                     | (go_at_call 48; refine (sFloorPoints_any _ _ _ _ (by first | exact hp.ext (by (repeat (first | exact Ext.refl _ | assumption | apply Ext.alloc | apply Ext.drew | apply Ext.drewN | (refine Ext.trans ?_ (by assumption))))) | exact hq.ext (by (repeat (first | exact Ext.refl _ | assumption | apply Ext.alloc | apply Ext.drew | apply Ext.drewN | (refine Ext.trans ?_ (by assumption)))))) (by first | exact hn | exact hm)).mono ?_; (first | rw [F1.out] | rw [F2.out]); rintro e w1 ⟨Z, z, rfl, oz, hb⟩; (try go_simp); refine hK _ _ ?_ ?_; exact ⟨Z, z, rfl, oz.more hW.size (Nat.le_refl _)⟩; (repeat (first | exact Ext.refl _ | assumption | apply Ext.alloc | apply Ext.drew | apply Ext.drewN | (refine Ext.trans ?_ (by assumption)))))
                     | (go_at_call 47; (first | (obtain ⟨Z, z, hz, oz⟩ : RowS wi.heap.size 35 FR _ _ := (by first | exact hd | exact hd.1 | exact hd.2.1 | exact hd.2); (simp only [hz] at hK ⊢); refine (l06Free_any A Z l FR c z _ (hp.ext (by (repeat (first | exact Ext.refl _ | assumption | apply Ext.alloc | apply Ext.drew | apply Ext.drewN | (refine Ext.trans ?_ (by assumption)))))) (oz.r (Nat.le_refl _)) (roomB_fine R1.out).1 P2.out (by omega)).mono ?_; rw [hin]) | (obtain ⟨Z, z, hz, oz⟩ : RowS wi.heap.size 35 FL _ _ := (by first | exact hd | exact hd.1 | exact hd.2.1 | exact hd.2); (simp only [hz] at hK ⊢); refine (l06Free_any B Z r FL d z _ (hq.ext (by (repeat (first | exact Ext.refl _ | assumption | apply Ext.alloc | apply Ext.drew | apply Ext.drewN | (refine Ext.trans ?_ (by assumption)))))) (oz.r (Nat.le_refl _)) (roomB_fine R2.out).1 P1.out (by omega)).mono ?_)); rintro e w1 ⟨rfl, hb⟩; (try go_simp); refine hK _ _ ?_ ?_; exact rfl; (repeat (first | exact Ext.refl _ | assumption | apply Ext.alloc | apply Ext.drew | apply Ext.drewN | (refine Ext.trans ?_ (by assumption))))))))
            case hV5 => (simp only [List.forall_mem_cons]; simp [stable_is, RowS_stable])
            intro u w2 hW2 hC2 hd
            simp only [AllV, is] at hd
            have hs2 := hd.2.2.1
            have hs7 := hd.2.2.2.2.2.2.2.1
            simp only [hd]
            clear hd
            clear hC2 hs2 hs7 fb
            go_wp2
            go_ret
            exact ⟨ret_bool (by rw [HV.out, HO.out, HI.out]; rfl), by (repeat (first | exact Ext.refl _ | assumption | apply Ext.alloc | apply Ext.drew | apply Ext.drewN | (refine Ext.trans ?_ (by assumption))))⟩
          · have HI := hide hin
            go_wp2
            refine wp_flow (by kernel_rfl) (by kernel_rfl) (fun u => ⟨#[_, _, _, _, u 10, _, _, _, _, _, _, _, _, _, _, _, _, _, _, _, _, _, _, _, _, _, _, _, _, _, _, _, _, _, _, _, u 0, u 1, u 2, u 3, u 4, u 5, u 6, u 7, u 8, u 9], _⟩) (fun i => List.getD [_, _, _, _, _, _, _, _, _, _, _] i undef) [is ?v6_0, is ?v6_1, (RowS wi.heap.size 35 FR), is ?v6_3, is ?v6_4, is ?v6_5, is ?v6_6, is ?v6_7, is ?v6_8, is ?v6_9, is ?v6_10] (fun w' => w'.cell? ⟨w.heap.size, 0, none⟩ = some (.slice A l.length c) ∧ w.heap.size < w'.heap.size ∧ w'.cell? ⟨w.heap.size + 1, 0, none⟩ = some (.slice B r.length d) ∧ w.heap.size + 1 < w'.heap.size) _ rfl ?hC6 ?hs6 ?hV6 ?fin6
            case hC6 => exact fun w' hx => (by have hq : Ext _ w' := hx; have hf0 := HB.out w' (by (repeat (first | exact Ext.refl _ | assumption | apply Ext.alloc | apply Ext.drew | apply Ext.drewN | (refine Ext.trans ?_ (by assumption))))); and_intros <;> first | exact hf0 | exact hf0.1 | exact hf0.2.1 | exact hf0.2.2.1 | exact hf0.2.2.2.1 | exact hf0.2.2.2.2.1 | exact hf0.2.2.2.2.2.1 | exact hf0.2.2.2.2.2.2.1 | exact hf0.2.2.2.2.2.2.2.1 | exact hf0.2.2.2.2.2.2.2.2.1 | exact hf0.2.2.2.2.2.2.2.2.2.1 | exact hf0.2.2.2.2.2.2.2.2.2.2.1 | exact hf0.2.2.2.2.2.2.2.2.2.2.2.1 | exact hf0.2.2.2.2.2.2.2.2.2.2.2.2.1 | exact hf0.2.2.2.2.2.2.2.2.2.2.2.2.2.1 | exact hf0.2 | exact hf0.2.2 | exact hf0.2.2.2 | exact hf0.2.2.2.2 | exact hf0.2.2.2.2.2 | exact hf0.2.2.2.2.2.2 | exact hf0.2.2.2.2.2.2.2 | exact hf0.2.2.2.2.2.2.2.2 | exact hf0.2.2.2.2.2.2.2.2.2 | exact hf0.2.2.2.2.2.2.2.2.2.2 | exact hf0.2.2.2.2.2.2.2.2.2.2.2 | exact hf0.2.2.2.2.2.2.2.2.2.2.2.2 | exact hf0.2.2.2.2.2.2.2.2.2.2.2.2.2)
            case hs6 =>
              repeat' (first
                | exact FSteps.nil
                | refine FSteps.cons ?_ ?_
                | (refine FStep.off_ _ _ _ rfl rfl ?_ (fun _ => rfl) ?_; (focus (intro u w hd; simp [vOf, is, Region.binds] at hd; simp [hd])); (intro w'; exact rfl); done)
                | ((first
                    | refine FStep.plain rfl ?_
                    | (refine FStep.on_ _ _ _ rfl rfl ?_ ?_; (focus (intro u w hd; simp [vOf, is, Region.binds] at hd; simp [hd]))))
                   intro u w hW hC hd K hK
                   (try simp [vOf, is, Region.binds] at hd)
                   simp only [upd, Nat.reduceEqDiff, if_true, if_false] at hK
                   (try simp only [hd] at hK)
                   go_simp
                   (first
                     | (refine hK _ _ ?_ ?_; (first | exact rfl); (repeat (first | exact Ext.refl _ | assumption | apply Ext.alloc | apply Ext.drew | apply Ext.drewN | (refine Ext.trans ?_ (by assumption)))))
                     | (go_at_call 48; refine (sFloorPoints_any _ _ _ _ (by first | exact hp.ext (by (repeat (first | exact Ext.refl _ | assumption | apply Ext.alloc | apply Ext.drew | apply Ext.drewN | (refine Ext.trans ?_ (by assumption))))) | exact hq.ext (by (repeat (first | exact Ext.refl _ | assumption | apply Ext.alloc | apply Ext.drew | apply Ext.drewN | (refine Ext.trans ?_ (by assumption)))))) (by first | exact hn | exact hm)).mono ?_; (first | rw [F1.out] | rw [F2.out]); rintro e w1 ⟨Z, z, rfl, oz, hb⟩; (try go_simp); refine hK _ _ ?_ ?_; exact ⟨Z, z, rfl, oz.more hW.size (Nat.le_refl _)⟩; (repeat (first | exact Ext.refl _ | assumption | apply Ext.alloc | apply Ext.drew | apply Ext.drewN | (refine Ext.trans ?_ (by assumption)))))
                     | (go_at_call 47; obtain ⟨Z, z, hz, oz⟩ : RowS wi.heap.size 35 FR _ _ := (by first | exact hd | exact hd.1 | exact hd.2.1 | exact hd.2); (simp only [hz] at hK ⊢); refine (l06Free_any A Z l FR c z _ (hp.ext (by (repeat (first | exact Ext.refl _ | assumption | apply Ext.alloc | apply Ext.drew | apply Ext.drewN | (refine Ext.trans ?_ (by assumption)))))) (oz.r (Nat.le_refl _)) (roomB_fine R1.out).1 P2.out (by omega)).mono ?_; rw [hin]; rintro e w1 ⟨rfl, hb⟩; (try go_simp); refine hK _ _ ?_ ?_; exact rfl; (repeat (first | exact Ext.refl _ | assumption | apply Ext.alloc | apply Ext.drew | apply Ext.drewN | (refine Ext.trans ?_ (by assumption))))))))
            case hV6 => (simp only [List.forall_mem_cons]; simp [stable_is, RowS_stable])
            intro u w2 hW2 hC2 hd
            simp only [AllV, is] at hd
            have hs2 := hd.2.2.1
            simp only [hd]
            clear hd
            clear hC2 hs2 fb
            go_wp2
            go_ret
            exact ⟨ret_bool (by rw [HV.out, HO.out, HI.out]; rfl), by (repeat (first | exact Ext.refl _ | assumption | apply Ext.alloc | apply Ext.drew | apply Ext.drewN | (refine Ext.trans ?_ (by assumption))))⟩

end Go.Proofs.Ytmccffmkfdcmmaa
