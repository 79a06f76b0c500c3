/-
  Contracts: diagonals (the reference's l09Diagonal, IsDiagonal).
-/
import Derived.Test.YtmccffmkfdcmmaaDiagP
import Derived.Test.YtmccffmkfdcmmaaSSees
namespace Go.Proofs.Ytmccffmkfdcmmaa
open Go.RowKit

theorem nat_ne_cast (i k : Nat) : ((i : Int) != (k : Int)) = !(i == k) := by rw [bne, nat_eq_cast]




set_option maxRecDepth 100000 in
set_option maxHeartbeats 16000000 in
theorem sDiagonal_nat (A : Option Addr) (l : List (Int × Int)) (c m p : Nat) (w : World) (hp : RPts w A l) (hr : roomB l = true) (hm : m < l.length) (hpl : p < l.length) :
    Calls Try.prog 59 #[.slice A l.length c, .int .i64 m, .int .i64 p] w fun e w' => e = .returned (.bool (dgN l m p)) ∧ Ext w w' := by
  rw [← dg_eq hr hm hpl]
  obtain ⟨hf, h3⟩ := roomB_fine hr
  have h10 := hf.2
  have hn : l.length ≤ 1048576 := by omega
  obtain ⟨b, off, rfl⟩ := hp.some_ (by omega)
  obtain ⟨s1, s2⟩ := sum_wrap (hf.pok hm) (hf.pok hpl)
  have HR := hide hr
  have HPM := hide (hf.pok hm)
  have HPP := hide (hf.pok hpl)
  have HPK := hide (fun (k : Nat) (h : k < l.length) => hf.pok h)
  clear hf hr
  obtain ⟨i0, hI, hZ, hS, hY⟩ := info_parts info_ipt
  obtain ⟨q1, q2, q3, q4, q5⟩ := idx_facts ((m : Int) + 1) (m + 1) l.length (by omega) (by omega) (by omega)
  obtain ⟨r1, r2, r3, r4, r5⟩ := idx_facts ((p : Int) + 1) (p + 1) l.length (by omega) (by omega) (by omega)
  have m1 := mod_eq_cast l m p
  have m2 := mod_eq_cast l p m
  have hmp := nat_eq_cast m p
  have q6 : l ≠ [] := fun e => by rw [e] at hm; simp at hm
  have q7 : (m : Int) < (l.length : Int) := by omega
  have q8 : (p : Int) < (l.length : Int) := by omega
  cases e0 : (m == p)
  · rw [e0] at hmp
    cases e1 : ((m + 1) % l.length == p)
    · rw [e1] at m1
      cases e2 : ((p + 1) % l.length == m)
      · rw [e2] at m2
        cases hs : seesV l (gx l m) (gy l m) (gx l p) (gy l p)
        · have HV := hide (show dgS l m p = false by unfold dgS; rw [hs]; simp)
          clear e0 e1 e2
          go_enter Try.func59, Try.ntmps59
          go_wp2
          refine wp_flow (by kernel_rfl) (by kernel_rfl) (fun u => ⟨#[_, _, _, _, _, _, _, _, _, _, _, _, _, u 0, u 1, u 2, u 3, u 4, u 5, u 6, u 7, u 8, u 9, u 10, u 11, u 12, u 13, u 14, u 15, u 16, u 17, u 18, u 19, u 20, u 21, u 22, u 23, u 24, u 25, u 26, u 27, u 28, u 29, u 30, u 31, _, _, _, _, _, _, _, _, _, _, _, _, _, _, _, _, _, _, _, _, _, _, _, _, _, _, _, _, _, _, _, _, _, _, _, _, _, _, _, _, _, _, _, _, _, _, _, _, _, _, _, _, _, _, _, _, _, _, _, _, _, _, _, _, _, _, _, _], _⟩) (fun i => List.getD [_, _, _, _, _, _, _, _, _, _, _, _, _, _, _, _, _, _, _, _, _, _, _, _, _, _, _, _, _, _, _, _] i undef) [is ?v1_0, is ?v1_1, is ?v1_2, is ?v1_3, is ?v1_4, is ?v1_5, is ?v1_6, is ?v1_7, is ?v1_8, is ?v1_9, is ?v1_10, is ?v1_11, is ?v1_12, is ?v1_13, is ?v1_14, is ?v1_15, is ?v1_16, is ?v1_17, is ?v1_18, is ?v1_19, is ?v1_20, is ?v1_21, is ?v1_22, is ?v1_23, is ?v1_24, is ?v1_25, is ?v1_26, is ?v1_27, is ?v1_28, is ?v1_29, is ?v1_30, is ?v1_31] (fun w' => w'.cell? ⟨b, off + m * 2, none⟩ = some (.int .i64 (gx l (m))) ∧ w'.cell? ⟨b, off + m * 2 + 1, none⟩ = some (.int .i64 (gy l (m))) ∧ w'.cell? ⟨b, off + p * 2, none⟩ = some (.int .i64 (gx l (p))) ∧ w'.cell? ⟨b, off + p * 2 + 1, none⟩ = some (.int .i64 (gy l (p)))) _ rfl ?hC1 ?hs1 ?hV1 ?fin1
          case hC1 => exact fun w' hx => (by have h := hp.ext hx; and_intros <;> first | exact (h.cell hm).2.1 | exact (h.cell hm).2.2 | exact (h.cell hpl).2.1 | exact (h.cell hpl).2.2)
          case hs1 =>
            repeat' (first
              | exact FSteps.nil
              | refine FSteps.cons ?_ ?_
              | (refine FStep.off_ _ _ _ rfl rfl ?_ (fun _ => rfl) ?_; (focus (intro u w hd; simp [vOf, is, Region.binds] at hd; simp [hd])); (intro w'; exact rfl); done)
              | ((first
                  | refine FStep.plain rfl ?_
                  | (refine FStep.on_ _ _ _ rfl rfl ?_ ?_; (focus (intro u w hd; simp [vOf, is, Region.binds] at hd; simp [hd]))))
                 intro u w hW hC hd K hK
                 (try simp [vOf, is, Region.binds] at hd)
                 simp only [upd, Nat.reduceEqDiff, if_true, if_false] at hK
                 (try simp only [hd] at hK)
                 go_simp
                 (first
                   | (refine hK _ _ ?_ ?_; (first | exact rfl); (repeat (first | exact Ext.refl _ | assumption | apply Ext.alloc | apply Ext.drew | apply Ext.drewN | (refine Ext.trans ?_ (by assumption)))))
                   | (go_at_call 55; refine (sl08Sees_any _ _ _ _ _ _ _ _ (hp.ext (by (repeat (first | exact Ext.refl _ | assumption | apply Ext.alloc | apply Ext.drew | apply Ext.drewN | (refine Ext.trans ?_ (by assumption)))))) HR.out HPM.out HPP.out).mono ?_; rw [hs]; rintro e w1 ⟨rfl, hb⟩; (try go_simp); refine hK _ _ ?_ ?_; (first | exact rfl); (repeat (first | exact Ext.refl _ | assumption | apply Ext.alloc | apply Ext.drew | apply Ext.drewN | (refine Ext.trans ?_ (by assumption))))))))
          case hV1 => (simp only [List.forall_mem_cons]; simp [stable_is])
          case fin1 =>
            intro u w2 hW2 hC2 hd
            simp only [AllV, is] at hd
            simp only [hd]
            clear hd
            clear hC2
            go_wp2
            go_ret
            exact ⟨ret_bool (by rw [HV.out]), by (repeat (first | exact Ext.refl _ | assumption | apply Ext.alloc | apply Ext.drew | apply Ext.drewN | (refine Ext.trans ?_ (by assumption))))⟩
        · have HV := hide (show dgS l m p = (freeB l m p && decide (0 < holdsV (dbl l) (gx l m + gx l p) (gy l m + gy l p))) by unfold dgS nbB; rw [hs, e0, e1, e2]; rfl)
          clear e0 e1 e2
          go_enter Try.func59, Try.ntmps59
          go_wp2
          refine wp_flow (by kernel_rfl) (by kernel_rfl) (fun u => ⟨#[_, _, _, _, _, _, _, _, _, _, _, _, _, u 0, u 1, u 2, u 3, u 4, u 5, u 6, u 7, u 8, u 9, u 10, u 11, u 12, u 13, u 14, u 15, u 16, u 17, u 18, u 19, u 20, u 21, u 22, u 23, u 24, u 25, u 26, u 27, u 28, u 29, u 30, u 31, _, _, _, _, _, _, _, _, _, _, _, _, _, _, _, _, _, _, _, _, _, _, _, _, _, _, _, _, _, _, _, _, _, _, _, _, _, _, _, _, _, _, _, _, _, _, _, _, _, _, _, _, _, _, _, _, _, _, _, _, _, _, _, _, _, _, _, _], _⟩) (fun i => List.getD [_, _, _, _, _, _, _, _, _, _, _, _, _, _, _, _, _, _, _, _, _, _, _, _, _, _, _, _, _, _, _, _] i undef) [is ?v2_0, is ?v2_1, is ?v2_2, is ?v2_3, is ?v2_4, is ?v2_5, is ?v2_6, is ?v2_7, is ?v2_8, is ?v2_9, is ?v2_10, is ?v2_11, is ?v2_12, is ?v2_13, is ?v2_14, is ?v2_15, is ?v2_16, is ?v2_17, is ?v2_18, is ?v2_19, is ?v2_20, is ?v2_21, is ?v2_22, is ?v2_23, is ?v2_24, is ?v2_25, is ?v2_26, is ?v2_27, is ?v2_28, is ?v2_29, is ?v2_30, is ?v2_31] (fun w' => w'.cell? ⟨b, off + m * 2, none⟩ = some (.int .i64 (gx l (m))) ∧ w'.cell? ⟨b, off + m * 2 + 1, none⟩ = some (.int .i64 (gy l (m))) ∧ w'.cell? ⟨b, off + p * 2, none⟩ = some (.int .i64 (gx l (p))) ∧ w'.cell? ⟨b, off + p * 2 + 1, none⟩ = some (.int .i64 (gy l (p)))) _ rfl ?hC2 ?hs2 ?hV2 ?fin2
          case hC2 => exact fun w' hx => (by have h := hp.ext hx; and_intros <;> first | exact (h.cell hm).2.1 | exact (h.cell hm).2.2 | exact (h.cell hpl).2.1 | exact (h.cell hpl).2.2)
          case hs2 =>
            repeat' (first
              | exact FSteps.nil
              | refine FSteps.cons ?_ ?_
              | (refine FStep.off_ _ _ _ rfl rfl ?_ (fun _ => rfl) ?_; (focus (intro u w hd; simp [vOf, is, Region.binds] at hd; simp [hd])); (intro w'; exact rfl); done)
              | ((first
                  | refine FStep.plain rfl ?_
                  | (refine FStep.on_ _ _ _ rfl rfl ?_ ?_; (focus (intro u w hd; simp [vOf, is, Region.binds] at hd; simp [hd]))))
                 intro u w hW hC hd K hK
                 (try simp [vOf, is, Region.binds] at hd)
                 simp only [upd, Nat.reduceEqDiff, if_true, if_false] at hK
                 (try simp only [hd] at hK)
                 go_simp
                 (first
                   | (refine hK _ _ ?_ ?_; (first | exact rfl); (repeat (first | exact Ext.refl _ | assumption | apply Ext.alloc | apply Ext.drew | apply Ext.drewN | (refine Ext.trans ?_ (by assumption)))))
                   | (go_at_call 55; refine (sl08Sees_any _ _ _ _ _ _ _ _ (hp.ext (by (repeat (first | exact Ext.refl _ | assumption | apply Ext.alloc | apply Ext.drew | apply Ext.drewN | (refine Ext.trans ?_ (by assumption)))))) HR.out HPM.out HPP.out).mono ?_; rw [hs]; rintro e w1 ⟨rfl, hb⟩; (try go_simp); refine hK _ _ ?_ ?_; (first | exact rfl); (repeat (first | exact Ext.refl _ | assumption | apply Ext.alloc | apply Ext.drew | apply Ext.drewN | (refine Ext.trans ?_ (by assumption))))))))
          case hV2 => (simp only [List.forall_mem_cons]; simp [stable_is])
          case fin2 =>
            intro u w2 hW2 hC2 hd
            simp only [AllV, is] at hd
            simp only [hd]
            clear hd
            clear hC2
            obtain ⟨wd, rfl⟩ : ∃ wd : World, wd = w2 := ⟨_, rfl⟩
            clear q1 q2 q3 q4 q5 r1 r2 r3 r4 r5 m1 m2 hmp
            go_wp2
            go_loopw [8] (fun jv wr => ∃ j : Nat, j ≤ l.length ∧ jv = .int .i64 j ∧ Ext wd wr ∧ Hid (freeTo l m p j = true)) (fun jv _ => l.length - (intOf jv).toNat)
            case atStart => exact ⟨0, Nat.zero_le _, rfl, Ext.refl _, hide rfl⟩
            case round =>
              obtain ⟨j, hj, rfl, hbj, HFR⟩ := hrel
              obtain ⟨wj, rfl⟩ : ∃ wj : World, wj = wr := ⟨_, rfl⟩
              have hsj := hp.ext (show Ext w wj by (repeat (first | exact Ext.refl _ | assumption | apply Ext.alloc | apply Ext.drew | apply Ext.drewN | (refine Ext.trans ?_ (by assumption)))))
              by_cases hlj : j < l.length
              · have q9 : (j : Int) < (l.length : Int) := by omega
                have hjm := nat_eq_cast j m
                have hjp := nat_eq_cast j p
                have hjn := nat_ne_cast j m
                have hjq := nat_ne_cast j p
                have HSU := hide (freeTo_succ l m p j)
                cases z1 : (j == m)
                · rw [z1] at hjm hjn
                  cases z2 : (j == p)
                  · rw [z2] at hjp hjq
                    cases ho : onW (gx l j) (gy l j) (gx l m) (gy l m) (gx l p) (gy l p)
                    · have HN := hide (show freeTo l m p (j + 1) = true by rw [HSU.out, HFR.out, z1, z2, ho]; rfl)
                      clear HSU
                      go_wp2
                      refine wp_flow (by kernel_rfl) (by kernel_rfl) (fun u => ⟨#[_, _, _, _, _, _, _, _, _, _, _, _, _, _, _, _, _, _, _, _, _, _, _, _, _, _, _, _, _, _, _, _, _, _, _, _, _, _, _, _, _, _, _, _, _, _, _, _, _, _, u 0, u 1, u 2, u 3, u 4, u 5, u 6, u 7, u 8, u 9, u 10, u 11, u 12, u 13, u 14, u 15, u 16, u 17, u 18, u 19, u 20, u 21, u 22, _, _, _, _, _, _, _, _, _, _, _, _, _, _, _, _, _, _, _, _, _, _, _, _, _, _, _, _, _, _, _, _, _, _, _, _, _, _, _, _], _⟩) (fun i => List.getD [_, _, _, _, _, _, _, _, _, _, _, _, _, _, _, _, _, _, _, _, _, _, _] i undef) [is ?v3_0, is ?v3_1, is ?v3_2, is ?v3_3, is ?v3_4, is ?v3_5, is ?v3_6, is ?v3_7, is ?v3_8, is ?v3_9, is ?v3_10, is ?v3_11, is ?v3_12, is ?v3_13, is ?v3_14, is ?v3_15, is ?v3_16, is ?v3_17, is ?v3_18, is ?v3_19, is ?v3_20, is ?v3_21, is ?v3_22] (fun w' => w'.cell? ⟨b, off + j * 2, none⟩ = some (.int .i64 (gx l (j))) ∧ w'.cell? ⟨b, off + j * 2 + 1, none⟩ = some (.int .i64 (gy l (j))) ∧ w'.cell? ⟨b, off + m * 2, none⟩ = some (.int .i64 (gx l (m))) ∧ w'.cell? ⟨b, off + m * 2 + 1, none⟩ = some (.int .i64 (gy l (m))) ∧ w'.cell? ⟨b, off + p * 2, none⟩ = some (.int .i64 (gx l (p))) ∧ w'.cell? ⟨b, off + p * 2 + 1, none⟩ = some (.int .i64 (gy l (p)))) _ rfl ?hC3 ?hs3 ?hV3 ?fin3
                      case hC3 => exact fun w' hx => (by have h := hsj.ext hx; and_intros <;> first | exact (h.cell hlj).2.1 | exact (h.cell hlj).2.2 | exact (h.cell hm).2.1 | exact (h.cell hm).2.2 | exact (h.cell hpl).2.1 | exact (h.cell hpl).2.2)
                      case hs3 =>
                        repeat' (first
                          | exact FSteps.nil
                          | refine FSteps.cons ?_ ?_
                          | (refine FStep.off_ _ _ _ rfl rfl ?_ (fun _ => rfl) ?_; (focus (intro u w hd; simp [vOf, is, Region.binds] at hd; simp [hd])); (intro w'; exact rfl); done)
                          | ((first
                              | refine FStep.plain rfl ?_
                              | (refine FStep.on_ _ _ _ rfl rfl ?_ ?_; (focus (intro u w hd; simp [vOf, is, Region.binds] at hd; simp [hd]))))
                             intro u w hW hC hd K hK
                             (try simp [vOf, is, Region.binds] at hd)
                             simp only [upd, Nat.reduceEqDiff, if_true, if_false] at hK
                             (try simp only [hd] at hK)
                             go_simp
                             (first
                               | (refine hK _ _ ?_ ?_; (first | exact rfl); (repeat (first | exact Ext.refl _ | assumption | apply Ext.alloc | apply Ext.drew | apply Ext.drewN | (refine Ext.trans ?_ (by assumption)))))
                               | (go_at_call 81; refine (sbet_any _ _ _ _ _ _ _).mono ?_; (try rw [ho]); rintro e w1 ⟨rfl, hb⟩; (try go_simp); refine hK _ _ ?_ ?_; (first | exact rfl); (repeat (first | exact Ext.refl _ | assumption | apply Ext.alloc | apply Ext.drew | apply Ext.drewN | (refine Ext.trans ?_ (by assumption))))))))
                      case hV3 => (simp only [List.forall_mem_cons]; simp [stable_is])
                      case fin3 =>
                        intro u w2 hW2 hC2 hd
                        simp only [AllV, is] at hd
                        simp only [hd]
                        clear hd
                        clear hC2
                        go_wp2
                        go_roundw
                        case rel => exact ⟨j + 1, by omega, by go_num, by (repeat (first | exact Ext.refl _ | assumption | apply Ext.alloc | apply Ext.drew | apply Ext.drewN | (refine Ext.trans ?_ (by assumption)))), hide HN.out⟩
                        case measure => simp [intOf]; omega
                    · have HN := hide (show freeB l m p = false from all_false hlj (by rw [z1, z2, ho]; rfl))
                      have HW := HN
                      clear HN
                      have HN := hide (show freeTo l m p (j + 1) = false by rw [HSU.out, HFR.out, z1, z2, ho]; rfl)
                      clear HSU
                      go_wp2
                      refine wp_flow (by kernel_rfl) (by kernel_rfl) (fun u => ⟨#[_, _, _, _, _, _, _, _, _, _, _, _, _, _, _, _, _, _, _, _, _, _, _, _, _, _, _, _, _, _, _, _, _, _, _, _, _, _, _, _, _, _, _, _, _, _, _, _, _, _, u 0, u 1, u 2, u 3, u 4, u 5, u 6, u 7, u 8, u 9, u 10, u 11, u 12, u 13, u 14, u 15, u 16, u 17, u 18, u 19, u 20, u 21, u 22, _, _, _, _, _, _, _, _, _, _, _, _, _, _, _, _, _, _, _, _, _, _, _, _, _, _, _, _, _, _, _, _, _, _, _, _, _, _, _, _], _⟩) (fun i => List.getD [_, _, _, _, _, _, _, _, _, _, _, _, _, _, _, _, _, _, _, _, _, _, _] i undef) [is ?v4_0, is ?v4_1, is ?v4_2, is ?v4_3, is ?v4_4, is ?v4_5, is ?v4_6, is ?v4_7, is ?v4_8, is ?v4_9, is ?v4_10, is ?v4_11, is ?v4_12, is ?v4_13, is ?v4_14, is ?v4_15, is ?v4_16, is ?v4_17, is ?v4_18, is ?v4_19, is ?v4_20, is ?v4_21, is ?v4_22] (fun w' => w'.cell? ⟨b, off + j * 2, none⟩ = some (.int .i64 (gx l (j))) ∧ w'.cell? ⟨b, off + j * 2 + 1, none⟩ = some (.int .i64 (gy l (j))) ∧ w'.cell? ⟨b, off + m * 2, none⟩ = some (.int .i64 (gx l (m))) ∧ w'.cell? ⟨b, off + m * 2 + 1, none⟩ = some (.int .i64 (gy l (m))) ∧ w'.cell? ⟨b, off + p * 2, none⟩ = some (.int .i64 (gx l (p))) ∧ w'.cell? ⟨b, off + p * 2 + 1, none⟩ = some (.int .i64 (gy l (p)))) _ rfl ?hC4 ?hs4 ?hV4 ?fin4
                      case hC4 => exact fun w' hx => (by have h := hsj.ext hx; and_intros <;> first | exact (h.cell hlj).2.1 | exact (h.cell hlj).2.2 | exact (h.cell hm).2.1 | exact (h.cell hm).2.2 | exact (h.cell hpl).2.1 | exact (h.cell hpl).2.2)
                      case hs4 =>
                        repeat' (first
                          | exact FSteps.nil
                          | refine FSteps.cons ?_ ?_
                          | (refine FStep.off_ _ _ _ rfl rfl ?_ (fun _ => rfl) ?_; (focus (intro u w hd; simp [vOf, is, Region.binds] at hd; simp [hd])); (intro w'; exact rfl); done)
                          | ((first
                              | refine FStep.plain rfl ?_
                              | (refine FStep.on_ _ _ _ rfl rfl ?_ ?_; (focus (intro u w hd; simp [vOf, is, Region.binds] at hd; simp [hd]))))
                             intro u w hW hC hd K hK
                             (try simp [vOf, is, Region.binds] at hd)
                             simp only [upd, Nat.reduceEqDiff, if_true, if_false] at hK
                             (try simp only [hd] at hK)
                             go_simp
                             (first
                               | (refine hK _ _ ?_ ?_; (first | exact rfl); (repeat (first | exact Ext.refl _ | assumption | apply Ext.alloc | apply Ext.drew | apply Ext.drewN | (refine Ext.trans ?_ (by assumption)))))
                               | (go_at_call 81; refine (sbet_any _ _ _ _ _ _ _).mono ?_; (try rw [ho]); rintro e w1 ⟨rfl, hb⟩; (try go_simp); refine hK _ _ ?_ ?_; (first | exact rfl); (repeat (first | exact Ext.refl _ | assumption | apply Ext.alloc | apply Ext.drew | apply Ext.drewN | (refine Ext.trans ?_ (by assumption))))))))
                      case hV4 => (simp only [List.forall_mem_cons]; simp [stable_is])
                      case fin4 =>
                        intro u w2 hW2 hC2 hd
                        simp only [AllV, is] at hd
                        simp only [hd]
                        clear hd
                        clear hC2
                        go_wp2
                        go_ret
                        exact ⟨ret_bool (by rw [HV.out, HW.out]; rfl), by (repeat (first | exact Ext.refl _ | assumption | apply Ext.alloc | apply Ext.drew | apply Ext.drewN | (refine Ext.trans ?_ (by assumption))))⟩
                  · rw [z2] at hjp hjq
                    have HN := hide (show freeTo l m p (j + 1) = true by rw [HSU.out, HFR.out, z1, z2]; rfl)
                    clear HSU
                    go_wp2
                    refine wp_flow (by kernel_rfl) (by kernel_rfl) (fun u => ⟨#[_, _, _, _, _, _, _, _, _, _, _, _, _, _, _, _, _, _, _, _, _, _, _, _, _, _, _, _, _, _, _, _, _, _, _, _, _, _, _, _, _, _, _, _, _, _, _, _, _, _, u 0, u 1, u 2, u 3, u 4, u 5, u 6, u 7, u 8, u 9, u 10, u 11, u 12, u 13, u 14, u 15, u 16, u 17, u 18, u 19, u 20, u 21, u 22, _, _, _, _, _, _, _, _, _, _, _, _, _, _, _, _, _, _, _, _, _, _, _, _, _, _, _, _, _, _, _, _, _, _, _, _, _, _, _, _], _⟩) (fun i => List.getD [_, _, _, _, _, _, _, _, _, _, _, _, _, _, _, _, _, _, _, _, _, _, _] i undef) [is ?v5_0, is ?v5_1, is ?v5_2, is ?v5_3, is ?v5_4, is ?v5_5, is ?v5_6, is ?v5_7, is ?v5_8, is ?v5_9, is ?v5_10, is ?v5_11, is ?v5_12, is ?v5_13, is ?v5_14, is ?v5_15, is ?v5_16, is ?v5_17, is ?v5_18, is ?v5_19, is ?v5_20, is ?v5_21, is ?v5_22] (fun w' => w'.cell? ⟨b, off + j * 2, none⟩ = some (.int .i64 (gx l (j))) ∧ w'.cell? ⟨b, off + j * 2 + 1, none⟩ = some (.int .i64 (gy l (j))) ∧ w'.cell? ⟨b, off + m * 2, none⟩ = some (.int .i64 (gx l (m))) ∧ w'.cell? ⟨b, off + m * 2 + 1, none⟩ = some (.int .i64 (gy l (m))) ∧ w'.cell? ⟨b, off + p * 2, none⟩ = some (.int .i64 (gx l (p))) ∧ w'.cell? ⟨b, off + p * 2 + 1, none⟩ = some (.int .i64 (gy l (p)))) _ rfl ?hC5 ?hs5 ?hV5 ?fin5
                    case hC5 => exact fun w' hx => (by have h := hsj.ext hx; and_intros <;> first | exact (h.cell hlj).2.1 | exact (h.cell hlj).2.2 | exact (h.cell hm).2.1 | exact (h.cell hm).2.2 | exact (h.cell hpl).2.1 | exact (h.cell hpl).2.2)
                    case hs5 =>
                      repeat' (first
                        | exact FSteps.nil
                        | refine FSteps.cons ?_ ?_
                        | (refine FStep.off_ _ _ _ rfl rfl ?_ (fun _ => rfl) ?_; (focus (intro u w hd; simp [vOf, is, Region.binds] at hd; simp [hd])); (intro w'; exact rfl); done)
                        | ((first
                            | refine FStep.plain rfl ?_
                            | (refine FStep.on_ _ _ _ rfl rfl ?_ ?_; (focus (intro u w hd; simp [vOf, is, Region.binds] at hd; simp [hd]))))
                           intro u w hW hC hd K hK
                           (try simp [vOf, is, Region.binds] at hd)
                           simp only [upd, Nat.reduceEqDiff, if_true, if_false] at hK
                           (try simp only [hd] at hK)
                           go_simp
                           (first
                             | (refine hK _ _ ?_ ?_; (first | exact rfl); (repeat (first | exact Ext.refl _ | assumption | apply Ext.alloc | apply Ext.drew | apply Ext.drewN | (refine Ext.trans ?_ (by assumption)))))
                             | (go_at_call 81; refine (sbet_any _ _ _ _ _ _ _).mono ?_; (try rw [ho]); rintro e w1 ⟨rfl, hb⟩; (try go_simp); refine hK _ _ ?_ ?_; (first | exact rfl); (repeat (first | exact Ext.refl _ | assumption | apply Ext.alloc | apply Ext.drew | apply Ext.drewN | (refine Ext.trans ?_ (by assumption))))))))
                    case hV5 => (simp only [List.forall_mem_cons]; simp [stable_is])
                    case fin5 =>
                      intro u w2 hW2 hC2 hd
                      simp only [AllV, is] at hd
                      simp only [hd]
                      clear hd
                      clear hC2
                      go_wp2
                      go_roundw
                      case rel => exact ⟨j + 1, by omega, by go_num, by (repeat (first | exact Ext.refl _ | assumption | apply Ext.alloc | apply Ext.drew | apply Ext.drewN | (refine Ext.trans ?_ (by assumption)))), hide HN.out⟩
                      case measure => simp [intOf]; omega
                · rw [z1] at hjm hjn
                  have HN := hide (show freeTo l m p (j + 1) = true by rw [HSU.out, HFR.out, z1]; rfl)
                  clear HSU
                  go_wp2
                  refine wp_flow (by kernel_rfl) (by kernel_rfl) (fun u => ⟨#[_, _, _, _, _, _, _, _, _, _, _, _, _, _, _, _, _, _, _, _, _, _, _, _, _, _, _, _, _, _, _, _, _, _, _, _, _, _, _, _, _, _, _, _, _, _, _, _, _, _, u 0, u 1, u 2, u 3, u 4, u 5, u 6, u 7, u 8, u 9, u 10, u 11, u 12, u 13, u 14, u 15, u 16, u 17, u 18, u 19, u 20, u 21, u 22, _, _, _, _, _, _, _, _, _, _, _, _, _, _, _, _, _, _, _, _, _, _, _, _, _, _, _, _, _, _, _, _, _, _, _, _, _, _, _, _], _⟩) (fun i => List.getD [_, _, _, _, _, _, _, _, _, _, _, _, _, _, _, _, _, _, _, _, _, _, _] i undef) [is ?v6_0, is ?v6_1, is ?v6_2, is ?v6_3, is ?v6_4, is ?v6_5, is ?v6_6, is ?v6_7, is ?v6_8, is ?v6_9, is ?v6_10, is ?v6_11, is ?v6_12, is ?v6_13, is ?v6_14, is ?v6_15, is ?v6_16, is ?v6_17, is ?v6_18, is ?v6_19, is ?v6_20, is ?v6_21, is ?v6_22] (fun w' => w'.cell? ⟨b, off + j * 2, none⟩ = some (.int .i64 (gx l (j))) ∧ w'.cell? ⟨b, off + j * 2 + 1, none⟩ = some (.int .i64 (gy l (j))) ∧ w'.cell? ⟨b, off + m * 2, none⟩ = some (.int .i64 (gx l (m))) ∧ w'.cell? ⟨b, off + m * 2 + 1, none⟩ = some (.int .i64 (gy l (m))) ∧ w'.cell? ⟨b, off + p * 2, none⟩ = some (.int .i64 (gx l (p))) ∧ w'.cell? ⟨b, off + p * 2 + 1, none⟩ = some (.int .i64 (gy l (p)))) _ rfl ?hC6 ?hs6 ?hV6 ?fin6
                  case hC6 => exact fun w' hx => (by have h := hsj.ext hx; and_intros <;> first | exact (h.cell hlj).2.1 | exact (h.cell hlj).2.2 | exact (h.cell hm).2.1 | exact (h.cell hm).2.2 | exact (h.cell hpl).2.1 | exact (h.cell hpl).2.2)
                  case hs6 =>
                    repeat' (first
                      | exact FSteps.nil
                      | refine FSteps.cons ?_ ?_
                      | (refine FStep.off_ _ _ _ rfl rfl ?_ (fun _ => rfl) ?_; (focus (intro u w hd; simp [vOf, is, Region.binds] at hd; simp [hd])); (intro w'; exact rfl); done)
                      | ((first
                          | refine FStep.plain rfl ?_
                          | (refine FStep.on_ _ _ _ rfl rfl ?_ ?_; (focus (intro u w hd; simp [vOf, is, Region.binds] at hd; simp [hd]))))
                         intro u w hW hC hd K hK
                         (try simp [vOf, is, Region.binds] at hd)
                         simp only [upd, Nat.reduceEqDiff, if_true, if_false] at hK
                         (try simp only [hd] at hK)
                         go_simp
                         (first
                           | (refine hK _ _ ?_ ?_; (first | exact rfl); (repeat (first | exact Ext.refl _ | assumption | apply Ext.alloc | apply Ext.drew | apply Ext.drewN | (refine Ext.trans ?_ (by assumption)))))
                           | (go_at_call 81; refine (sbet_any _ _ _ _ _ _ _).mono ?_; (try rw [ho]); rintro e w1 ⟨rfl, hb⟩; (try go_simp); refine hK _ _ ?_ ?_; (first | exact rfl); (repeat (first | exact Ext.refl _ | assumption | apply Ext.alloc | apply Ext.drew | apply Ext.drewN | (refine Ext.trans ?_ (by assumption))))))))
                  case hV6 => (simp only [List.forall_mem_cons]; simp [stable_is])
                  case fin6 =>
                    intro u w2 hW2 hC2 hd
                    simp only [AllV, is] at hd
                    simp only [hd]
                    clear hd
                    clear hC2
                    go_wp2
                    go_roundw
                    case rel => exact ⟨j + 1, by omega, by go_num, by (repeat (first | exact Ext.refl _ | assumption | apply Ext.alloc | apply Ext.drew | apply Ext.drewN | (refine Ext.trans ?_ (by assumption)))), hide HN.out⟩
                    case measure => simp [intOf]; omega
              · have q9 : ¬ (j : Int) < (l.length : Int) := by omega
                have HB0 := hide (show freeB l m p = true by unfold freeB; rw [show l.length = j by omega]; exact HFR.out)
                clear HFR
                go_wp2
                go_loopw [9, 10] (fun out i wr => ∃ (k : Nat) (o : Value), k ≤ l.length ∧ i = .int .i64 k ∧ o = out ∧ Ext wj wr ∧ wr.ownsRow wj.heap.size 35 2 o k (flat (dblTo l k))) (fun _ i _ => l.length - (intOf i).toNat)
                case atStart => exact ⟨0, _, Nat.zero_le _, rfl, rfl, by (repeat (first | exact Ext.refl _ | assumption | apply Ext.alloc | apply Ext.drew | apply Ext.drewN | (refine Ext.trans ?_ (by assumption)))), rfl, .inr ⟨wj.heap.size, 0, #[], by simp, Nat.le_refl _, by have h := heap_alloc_new wj (.cells #[] 35); simpa using h, Nat.le_refl _, by unfold maxLen; omega, rfl, rfl⟩⟩
                case round =>
                  obtain ⟨k, o, hk, rfl, ho, hbl, hown⟩ := hrel
                  subst ho
                  obtain ⟨wq, rfl⟩ : ∃ wq : World, wq = wr := ⟨_, rfl⟩
                  by_cases hlt : k < l.length
                  · have q2 : (k : Int) < (l.length : Int) := by omega
                    obtain ⟨hz, hx, hy⟩ := (hsj.ext hbl).cell hlt
                    have hpk := HPK.out k hlt
                    have HS := hide (dblTo_succ hlt)
                    go_wp2_with (first | (go_at_call 82; refine (sDoubled_any _ _ _ hpk).mono ?_; rintro e w1 ⟨rfl, hb1⟩; have hsz1 := (show Ext wj w1 by (repeat (first | exact Ext.refl _ | assumption | apply Ext.alloc | apply Ext.drew | apply Ext.drewN | (refine Ext.trans ?_ (by assumption))))).size) | (at_builtin; refine wpList_app _ rfl (.tmp 79) (.tmp 85) _ rfl wj.heap.size 35 i0 _ 2 16 Try.underlying27 hI hZ hS hY rfl (by omega) _ k (flat (dblTo l k)) (by rfl) (ownsRow_ext hown (by (repeat (first | exact Ext.refl _ | assumption | apply Ext.alloc | apply Ext.drew | apply Ext.drewN | (refine Ext.trans ?_ (by assumption)))))) ⟨w1.heap.size, 0, none⟩ 1 1 [.int .i64 (2 * gx l k), .int .i64 (2 * gy l k)] (by rfl) rfl (news_alloc w1 [.int .i64 (2 * gx l k), .int .i64 (2 * gy l k)] 35) (by simp [Value.oneCell']) (by unfold maxLen; omega) (by omega) (by simp; omega) ?_; intro v' w3 hown3 hg3 _))
                    have hx3 : Ext wj w3 := ext_grown (show Ext wj (w1.alloc (.cells #[.int .i64 (2 * gx l k), .int .i64 (2 * gy l k)] 35)) by (repeat (first | exact Ext.refl _ | assumption | apply Ext.alloc | apply Ext.drew | apply Ext.drewN | (refine Ext.trans ?_ (by assumption))))) hg3 (fun q hq => (hown.lt q hq).1)
                    clear hown hg3 hx hy
                    go_wp2
                    go_roundw
                    case rel => exact ⟨k + 1, _, by omega, by go_num, rfl, by (repeat (first | exact Ext.refl _ | assumption | apply Ext.alloc | apply Ext.drew | apply Ext.drewN | (refine Ext.trans ?_ (by assumption)))), by rw [HS.out, flat_snoc]; exact hown3⟩
                    case measure => simp [intOf]; omega
                  · have e : k = l.length := by omega
                    have q2 : ¬ (k : Int) < (l.length : Int) := by omega
                    obtain ⟨A', c', rfl⟩ := ownsRow_slice hown
                    have hown' := hown
                    rw [e] at hown'
                    have hO := (OwnS.of_own (l := dblTo l l.length) hown').2
                    have HKL := hide (show k = (dbl l).length by rw [dbl_length, e])
                    have HRD := hide (show RPts wq A' (dbl l) from hO.r (Nat.le_refl _))
                    have hsq := hsj.ext hbl
                    clear hO hown hown' e
                    go_wp2
                    refine wp_flow (by kernel_rfl) (by kernel_rfl) (fun u => ⟨#[_, _, _, _, _, _, u 26, _, _, _, _, _, _, _, _, _, _, _, _, _, _, _, _, _, _, _, _, _, _, _, _, _, _, _, _, _, _, _, _, _, _, _, _, _, _, _, _, _, _, _, _, _, _, _, _, _, _, _, _, _, _, _, _, _, _, _, _, _, _, _, _, _, _, _, _, _, _, _, _, _, _, _, _, _, _, _, _, u 0, u 1, u 2, u 3, u 4, u 5, u 6, u 7, u 8, u 9, u 10, u 11, u 12, u 13, u 14, u 15, u 16, u 17, u 18, u 19, u 20, u 21, u 22, u 23, u 24, u 25], _⟩) (fun i => List.getD [_, _, _, _, _, _, _, _, _, _, _, _, _, _, _, _, _, _, _, _, _, _, _, _, _, _, _] i undef) [is ?v7_0, is ?v7_1, is ?v7_2, is ?v7_3, is ?v7_4, is ?v7_5, is ?v7_6, is ?v7_7, is ?v7_8, is ?v7_9, is ?v7_10, is ?v7_11, is ?v7_12, is ?v7_13, is ?v7_14, is ?v7_15, is ?v7_16, is ?v7_17, is ?v7_18, is ?v7_19, is ?v7_20, is ?v7_21, is ?v7_22, is ?v7_23, is ?v7_24, is ?v7_25, is ?v7_26] (fun w' => w'.cell? ⟨b, off + m * 2, none⟩ = some (.int .i64 (gx l (m))) ∧ w'.cell? ⟨b, off + m * 2 + 1, none⟩ = some (.int .i64 (gy l (m))) ∧ w'.cell? ⟨b, off + p * 2, none⟩ = some (.int .i64 (gx l (p))) ∧ w'.cell? ⟨b, off + p * 2 + 1, none⟩ = some (.int .i64 (gy l (p)))) _ rfl ?hC7 ?hs7 ?hV7 ?fin7
                    case hC7 => exact fun w' hx => (by have h := hsq.ext hx; and_intros <;> first | exact (h.cell hm).2.1 | exact (h.cell hm).2.2 | exact (h.cell hpl).2.1 | exact (h.cell hpl).2.2)
                    case hs7 =>
                      repeat' (first
                        | exact FSteps.nil
                        | refine FSteps.cons ?_ ?_
                        | (refine FStep.off_ _ _ _ rfl rfl ?_ (fun _ => rfl) ?_; (focus (intro u w hd; simp [vOf, is, Region.binds] at hd; simp [hd])); (intro w'; exact rfl); done)
                        | ((first
                            | refine FStep.plain rfl ?_
                            | (refine FStep.on_ _ _ _ rfl rfl ?_ ?_; (focus (intro u w hd; simp [vOf, is, Region.binds] at hd; simp [hd]))))
                           intro u w hW hC hd K hK
                           (try simp [vOf, is, Region.binds] at hd)
                           simp only [upd, Nat.reduceEqDiff, if_true, if_false] at hK
                           (try simp only [hd] at hK)
                           go_simp
                           (first
                             | (refine hK _ _ ?_ ?_; (first | exact rfl); (repeat (first | exact Ext.refl _ | assumption | apply Ext.alloc | apply Ext.drew | apply Ext.drewN | (refine Ext.trans ?_ (by assumption)))))
                             | (go_at_call 72; refine (sHolds_at _ _ _ _ _ _ _ (HRD.out.ext (by (repeat (first | exact Ext.refl _ | assumption | apply Ext.alloc | apply Ext.drew | apply Ext.drewN | (refine Ext.trans ?_ (by assumption)))))) HKL.out (by omega)).mono ?_; rintro e w1 ⟨rfl, hb⟩; (try go_simp); refine hK _ _ ?_ ?_; (first | exact rfl); (repeat (first | exact Ext.refl _ | assumption | apply Ext.alloc | apply Ext.drew | apply Ext.drewN | (refine Ext.trans ?_ (by assumption))))))))
                    case hV7 => (simp only [List.forall_mem_cons]; simp [stable_is])
                    case fin7 =>
                      intro u w2 hW2 hC2 hd
                      simp only [AllV, is] at hd
                      simp only [hd]
                      clear hd
                      clear hC2
                      go_wp2
                      go_ret
                      exact ⟨ret_bool (by rw [HV.out, HB0.out]; rfl), by (repeat (first | exact Ext.refl _ | assumption | apply Ext.alloc | apply Ext.drew | apply Ext.drewN | (refine Ext.trans ?_ (by assumption))))⟩
      · rw [e2] at m2
        have hs : seesV l (gx l m) (gy l m) (gx l p) (gy l p) = seesV l (gx l m) (gy l m) (gx l p) (gy l p) := rfl
        have HV := hide (show dgS l m p = false by unfold dgS nbB; rw [e2]; simp)
        clear e0 e1 e2
        go_enter Try.func59, Try.ntmps59
        go_wp2
        refine wp_flow (by kernel_rfl) (by kernel_rfl) (fun u => ⟨#[_, _, _, _, _, _, _, _, _, _, _, _, _, u 0, u 1, u 2, u 3, u 4, u 5, u 6, u 7, u 8, u 9, u 10, u 11, u 12, u 13, u 14, u 15, u 16, u 17, u 18, u 19, u 20, u 21, u 22, u 23, u 24, u 25, u 26, u 27, u 28, u 29, u 30, u 31, _, _, _, _, _, _, _, _, _, _, _, _, _, _, _, _, _, _, _, _, _, _, _, _, _, _, _, _, _, _, _, _, _, _, _, _, _, _, _, _, _, _, _, _, _, _, _, _, _, _, _, _, _, _, _, _, _, _, _, _, _, _, _, _, _, _, _, _], _⟩) (fun i => List.getD [_, _, _, _, _, _, _, _, _, _, _, _, _, _, _, _, _, _, _, _, _, _, _, _, _, _, _, _, _, _, _, _] i undef) [is ?v8_0, is ?v8_1, is ?v8_2, is ?v8_3, is ?v8_4, is ?v8_5, is ?v8_6, is ?v8_7, is ?v8_8, is ?v8_9, is ?v8_10, is ?v8_11, is ?v8_12, is ?v8_13, is ?v8_14, is ?v8_15, is ?v8_16, is ?v8_17, is ?v8_18, is ?v8_19, is ?v8_20, is ?v8_21, is ?v8_22, is ?v8_23, is ?v8_24, is ?v8_25, is ?v8_26, is ?v8_27, is ?v8_28, is ?v8_29, is ?v8_30, is ?v8_31] (fun w' => w'.cell? ⟨b, off + m * 2, none⟩ = some (.int .i64 (gx l (m))) ∧ w'.cell? ⟨b, off + m * 2 + 1, none⟩ = some (.int .i64 (gy l (m))) ∧ w'.cell? ⟨b, off + p * 2, none⟩ = some (.int .i64 (gx l (p))) ∧ w'.cell? ⟨b, off + p * 2 + 1, none⟩ = some (.int .i64 (gy l (p)))) _ rfl ?hC8 ?hs8 ?hV8 ?fin8
        case hC8 => exact fun w' hx => (by have h := hp.ext hx; and_intros <;> first | exact (h.cell hm).2.1 | exact (h.cell hm).2.2 | exact (h.cell hpl).2.1 | exact (h.cell hpl).2.2)
        case hs8 =>
          repeat' (first
            | exact FSteps.nil
            | refine FSteps.cons ?_ ?_
            | (refine FStep.off_ _ _ _ rfl rfl ?_ (fun _ => rfl) ?_; (focus (intro u w hd; simp [vOf, is, Region.binds] at hd; simp [hd])); (intro w'; exact rfl); done)
            | ((first
                | refine FStep.plain rfl ?_
                | (refine FStep.on_ _ _ _ rfl rfl ?_ ?_; (focus (intro u w hd; simp [vOf, is, Region.binds] at hd; simp [hd]))))
               intro u w hW hC hd K hK
               (try simp [vOf, is, Region.binds] at hd)
               simp only [upd, Nat.reduceEqDiff, if_true, if_false] at hK
               (try simp only [hd] at hK)
               go_simp
               (first
                 | (refine hK _ _ ?_ ?_; (first | exact rfl); (repeat (first | exact Ext.refl _ | assumption | apply Ext.alloc | apply Ext.drew | apply Ext.drewN | (refine Ext.trans ?_ (by assumption)))))
                 | (go_at_call 55; refine (sl08Sees_any _ _ _ _ _ _ _ _ (hp.ext (by (repeat (first | exact Ext.refl _ | assumption | apply Ext.alloc | apply Ext.drew | apply Ext.drewN | (refine Ext.trans ?_ (by assumption)))))) HR.out HPM.out HPP.out).mono ?_; rw [hs]; rintro e w1 ⟨rfl, hb⟩; (try go_simp); refine hK _ _ ?_ ?_; (first | exact rfl); (repeat (first | exact Ext.refl _ | assumption | apply Ext.alloc | apply Ext.drew | apply Ext.drewN | (refine Ext.trans ?_ (by assumption))))))))
        case hV8 => (simp only [List.forall_mem_cons]; simp [stable_is])
        case fin8 =>
          intro u w2 hW2 hC2 hd
          simp only [AllV, is] at hd
          simp only [hd]
          clear hd
          clear hC2
          go_wp2
          go_ret
          exact ⟨ret_bool (by rw [HV.out]), by (repeat (first | exact Ext.refl _ | assumption | apply Ext.alloc | apply Ext.drew | apply Ext.drewN | (refine Ext.trans ?_ (by assumption))))⟩
    · rw [e1] at m1
      have hs : seesV l (gx l m) (gy l m) (gx l p) (gy l p) = seesV l (gx l m) (gy l m) (gx l p) (gy l p) := rfl
      have HV := hide (show dgS l m p = false by unfold dgS nbB; rw [e1]; simp)
      clear e0 e1
      go_enter Try.func59, Try.ntmps59
      go_wp2
      refine wp_flow (by kernel_rfl) (by kernel_rfl) (fun u => ⟨#[_, _, _, _, _, _, _, _, _, _, _, _, _, u 0, u 1, u 2, u 3, u 4, u 5, u 6, u 7, u 8, u 9, u 10, u 11, u 12, u 13, u 14, u 15, u 16, u 17, u 18, u 19, u 20, u 21, u 22, u 23, u 24, u 25, u 26, u 27, u 28, u 29, u 30, u 31, _, _, _, _, _, _, _, _, _, _, _, _, _, _, _, _, _, _, _, _, _, _, _, _, _, _, _, _, _, _, _, _, _, _, _, _, _, _, _, _, _, _, _, _, _, _, _, _, _, _, _, _, _, _, _, _, _, _, _, _, _, _, _, _, _, _, _, _], _⟩) (fun i => List.getD [_, _, _, _, _, _, _, _, _, _, _, _, _, _, _, _, _, _, _, _, _, _, _, _, _, _, _, _, _, _, _, _] i undef) [is ?v9_0, is ?v9_1, is ?v9_2, is ?v9_3, is ?v9_4, is ?v9_5, is ?v9_6, is ?v9_7, is ?v9_8, is ?v9_9, is ?v9_10, is ?v9_11, is ?v9_12, is ?v9_13, is ?v9_14, is ?v9_15, is ?v9_16, is ?v9_17, is ?v9_18, is ?v9_19, is ?v9_20, is ?v9_21, is ?v9_22, is ?v9_23, is ?v9_24, is ?v9_25, is ?v9_26, is ?v9_27, is ?v9_28, is ?v9_29, is ?v9_30, is ?v9_31] (fun w' => w'.cell? ⟨b, off + m * 2, none⟩ = some (.int .i64 (gx l (m))) ∧ w'.cell? ⟨b, off + m * 2 + 1, none⟩ = some (.int .i64 (gy l (m))) ∧ w'.cell? ⟨b, off + p * 2, none⟩ = some (.int .i64 (gx l (p))) ∧ w'.cell? ⟨b, off + p * 2 + 1, none⟩ = some (.int .i64 (gy l (p)))) _ rfl ?hC9 ?hs9 ?hV9 ?fin9
      case hC9 => exact fun w' hx => (by have h := hp.ext hx; and_intros <;> first | exact (h.cell hm).2.1 | exact (h.cell hm).2.2 | exact (h.cell hpl).2.1 | exact (h.cell hpl).2.2)
      case hs9 =>
        repeat' (first
          | exact FSteps.nil
          | refine FSteps.cons ?_ ?_
          | (refine FStep.off_ _ _ _ rfl rfl ?_ (fun _ => rfl) ?_; (focus (intro u w hd; simp [vOf, is, Region.binds] at hd; simp [hd])); (intro w'; exact rfl); done)
          | ((first
              | refine FStep.plain rfl ?_
              | (refine FStep.on_ _ _ _ rfl rfl ?_ ?_; (focus (intro u w hd; simp [vOf, is, Region.binds] at hd; simp [hd]))))
             intro u w hW hC hd K hK
             (try simp [vOf, is, Region.binds] at hd)
             simp only [upd, Nat.reduceEqDiff, if_true, if_false] at hK
             (try simp only [hd] at hK)
             go_simp
             (first
               | (refine hK _ _ ?_ ?_; (first | exact rfl); (repeat (first | exact Ext.refl _ | assumption | apply Ext.alloc | apply Ext.drew | apply Ext.drewN | (refine Ext.trans ?_ (by assumption)))))
               | (go_at_call 55; refine (sl08Sees_any _ _ _ _ _ _ _ _ (hp.ext (by (repeat (first | exact Ext.refl _ | assumption | apply Ext.alloc | apply Ext.drew | apply Ext.drewN | (refine Ext.trans ?_ (by assumption)))))) HR.out HPM.out HPP.out).mono ?_; rw [hs]; rintro e w1 ⟨rfl, hb⟩; (try go_simp); refine hK _ _ ?_ ?_; (first | exact rfl); (repeat (first | exact Ext.refl _ | assumption | apply Ext.alloc | apply Ext.drew | apply Ext.drewN | (refine Ext.trans ?_ (by assumption))))))))
      case hV9 => (simp only [List.forall_mem_cons]; simp [stable_is])
      case fin9 =>
        intro u w2 hW2 hC2 hd
        simp only [AllV, is] at hd
        simp only [hd]
        clear hd
        clear hC2
        go_wp2
        go_ret
        exact ⟨ret_bool (by rw [HV.out]), by (repeat (first | exact Ext.refl _ | assumption | apply Ext.alloc | apply Ext.drew | apply Ext.drewN | (refine Ext.trans ?_ (by assumption))))⟩
  · rw [e0] at hmp
    have hs : seesV l (gx l m) (gy l m) (gx l p) (gy l p) = seesV l (gx l m) (gy l m) (gx l p) (gy l p) := rfl
    have HV := hide (show dgS l m p = false by unfold dgS; rw [e0]; simp)
    clear e0
    go_enter Try.func59, Try.ntmps59
    go_wp2
    refine wp_flow (by kernel_rfl) (by kernel_rfl) (fun u => ⟨#[_, _, _, _, _, _, _, _, _, _, _, _, _, u 0, u 1, u 2, u 3, u 4, u 5, u 6, u 7, u 8, u 9, u 10, u 11, u 12, u 13, u 14, u 15, u 16, u 17, u 18, u 19, u 20, u 21, u 22, u 23, u 24, u 25, u 26, u 27, u 28, u 29, u 30, u 31, _, _, _, _, _, _, _, _, _, _, _, _, _, _, _, _, _, _, _, _, _, _, _, _, _, _, _, _, _, _, _, _, _, _, _, _, _, _, _, _, _, _, _, _, _, _, _, _, _, _, _, _, _, _, _, _, _, _, _, _, _, _, _, _, _, _, _, _], _⟩) (fun i => List.getD [_, _, _, _, _, _, _, _, _, _, _, _, _, _, _, _, _, _, _, _, _, _, _, _, _, _, _, _, _, _, _, _] i undef) [is ?v10_0, is ?v10_1, is ?v10_2, is ?v10_3, is ?v10_4, is ?v10_5, is ?v10_6, is ?v10_7, is ?v10_8, is ?v10_9, is ?v10_10, is ?v10_11, is ?v10_12, is ?v10_13, is ?v10_14, is ?v10_15, is ?v10_16, is ?v10_17, is ?v10_18, is ?v10_19, is ?v10_20, is ?v10_21, is ?v10_22, is ?v10_23, is ?v10_24, is ?v10_25, is ?v10_26, is ?v10_27, is ?v10_28, is ?v10_29, is ?v10_30, is ?v10_31] (fun w' => w'.cell? ⟨b, off + m * 2, none⟩ = some (.int .i64 (gx l (m))) ∧ w'.cell? ⟨b, off + m * 2 + 1, none⟩ = some (.int .i64 (gy l (m))) ∧ w'.cell? ⟨b, off + p * 2, none⟩ = some (.int .i64 (gx l (p))) ∧ w'.cell? ⟨b, off + p * 2 + 1, none⟩ = some (.int .i64 (gy l (p)))) _ rfl ?hC10 ?hs10 ?hV10 ?fin10
    case hC10 => exact fun w' hx => (by have h := hp.ext hx; and_intros <;> first | exact (h.cell hm).2.1 | exact (h.cell hm).2.2 | exact (h.cell hpl).2.1 | exact (h.cell hpl).2.2)
    case hs10 =>
      repeat' (first
        | exact FSteps.nil
        | refine FSteps.cons ?_ ?_
        | (refine FStep.off_ _ _ _ rfl rfl ?_ (fun _ => rfl) ?_; (focus (intro u w hd; simp [vOf, is, Region.binds] at hd; simp [hd])); (intro w'; exact rfl); done)
        | ((first
            | refine FStep.plain rfl ?_
            | (refine FStep.on_ _ _ _ rfl rfl ?_ ?_; (focus (intro u w hd; simp [vOf, is, Region.binds] at hd; simp [hd]))))
           intro u w hW hC hd K hK
           (try simp [vOf, is, Region.binds] at hd)
           simp only [upd, Nat.reduceEqDiff, if_true, if_false] at hK
           (try simp only [hd] at hK)
           go_simp
           (first
             | (refine hK _ _ ?_ ?_; (first | exact rfl); (repeat (first | exact Ext.refl _ | assumption | apply Ext.alloc | apply Ext.drew | apply Ext.drewN | (refine Ext.trans ?_ (by assumption)))))
             | (go_at_call 55; refine (sl08Sees_any _ _ _ _ _ _ _ _ (hp.ext (by (repeat (first | exact Ext.refl _ | assumption | apply Ext.alloc | apply Ext.drew | apply Ext.drewN | (refine Ext.trans ?_ (by assumption)))))) HR.out HPM.out HPP.out).mono ?_; rw [hs]; rintro e w1 ⟨rfl, hb⟩; (try go_simp); refine hK _ _ ?_ ?_; (first | exact rfl); (repeat (first | exact Ext.refl _ | assumption | apply Ext.alloc | apply Ext.drew | apply Ext.drewN | (refine Ext.trans ?_ (by assumption))))))))
    case hV10 => (simp only [List.forall_mem_cons]; simp [stable_is])
    case fin10 =>
      intro u w2 hW2 hC2 hd
      simp only [AllV, is] at hd
      simp only [hd]
      clear hd
      clear hC2
      go_wp2
      go_ret
      exact ⟨ret_bool (by rw [HV.out]), by (repeat (first | exact Ext.refl _ | assumption | apply Ext.alloc | apply Ext.drew | apply Ext.drewN | (refine Ext.trans ?_ (by assumption))))⟩

end Go.Proofs.Ytmccffmkfdcmmaa
