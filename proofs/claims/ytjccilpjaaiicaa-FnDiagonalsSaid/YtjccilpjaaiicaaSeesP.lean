/-
  Contracts: sight in a valid room (the program's sees), Sees.
-/
import Derived.Test.YtjccilpjaaiicaaCornersB
namespace Go.Proofs.Ytjccilpjaaiicaa
open Go.RowKit

theorem sees_no {l s : List (Int × Int)} {ax ay bx by_ : Int} (hr : roomB l = true) (ha : pok ax ay = true) (hb : pok bx by_ = true) (hp : s.Perm (cuts l ax ay bx by_)) (hs : SortedK (kk (ax, ay)) (0, 0) s) {i : Nat} (hi : i + 1 < s.length)
    (h : (midP l (gx s i) (gy s i) (gx s (i + 1)) (gy s (i + 1)) == 0) = true) : seesV l ax ay bx by_ = false := by
  have e : goodTo l (cuts l ax ay bx by_) (cuts l ax ay bx by_).length = false := by
    rw [Bool.eq_false_iff]
    intro hg
    exact (sees_sorted hr ha hb hp hs).2 hg i hi (by simpa using h)
  unfold seesV
  rw [e]
  simp
theorem sees_yes {l s : List (Int × Int)} {ax ay bx by_ : Int} (hr : roomB l = true) (ha : pok ax ay = true) (hb : pok bx by_ = true) (hp : s.Perm (cuts l ax ay bx by_)) (hs : SortedK (kk (ax, ay)) (0, 0) s) (hc : clearTo l ax ay bx by_ l.length = true)
    (h : ∀ i, i + 1 < s.length → (midP l (gx s i) (gy s i) (gx s (i + 1)) (gy s (i + 1)) == 0) = false) : seesV l ax ay bx by_ = true := by
  have e := (sees_sorted hr ha hb hp hs).1 (fun i hi => by simpa using h i hi)
  unfold seesV
  rw [e, hc]
  rfl
theorem cuts_pok {l s : List (Int × Int)} {ax ay bx by_ : Int} (hf : Fine l) (ha : pok ax ay = true) (hb : pok bx by_ = true) (hp : s.Perm (cuts l ax ay bx by_)) {i : Nat} (hi : i < s.length) : pok (gx s i) (gy s i) = true :=
  (cuts_on hf ha hb _ (hp.mem_iff.1 (g_mem hi))).1

set_option maxRecDepth 100000 in
set_option maxHeartbeats 8000000 in
theorem sees_any (A : Option Addr) (l : List (Int × Int)) (c : Nat) (ax ay bx by_ : Int) (w : World) (hp : RPts w A l) (hr : roomB l = true) (ha : pok ax ay = true) (hb : pok bx by_ = true) :
    Calls Try.prog 22 #[.agg #[.slice A l.length c], .agg #[.int .i64 ax, .int .i64 ay], .agg #[.int .i64 bx, .int .i64 by_]] w fun e w' => e = .returned (.bool (seesV l ax ay bx by_)) ∧ Ext w w' := by
  obtain ⟨hf, h3⟩ := roomB_fine hr
  have h10 := hf.2
  have hn : l.length ≤ 1048576 := by omega
  obtain ⟨b, off, rfl⟩ := hp.some_ (by omega)
  have HF := hide hf
  have HR := hide hr
  have HPA := hide ha
  have HPB := hide hb
  clear hf hr ha hb
  have HB : Hid (∀ w', Ext (((w.alloc (.cells #[.slice (some ⟨b, off, none⟩) l.length c] 26)).alloc (.cells #[.int .i64 ax, .int .i64 ay] 28)).alloc (.cells #[.int .i64 bx, .int .i64 by_] 28)) w' → w'.cell? ⟨w.heap.size, 0, none⟩ = some (.slice (some ⟨b, off, none⟩) l.length c) ∧ w.heap.size < w'.heap.size ∧ w'.cell? ⟨w.heap.size + 1, 0, none⟩ = some (.int .i64 ax) ∧ w'.cell? ⟨w.heap.size + 1, 1, none⟩ = some (.int .i64 ay) ∧ w.heap.size + 1 < w'.heap.size ∧ w'.cell? ⟨w.heap.size + 1 + 1, 0, none⟩ = some (.int .i64 bx) ∧ w'.cell? ⟨w.heap.size + 1 + 1, 1, none⟩ = some (.int .i64 by_) ∧ w.heap.size + 1 + 1 < w'.heap.size) := fun w' hx => by
    and_intros <;> (first | (have hz := hx.size; simp at hz; omega) | ((first | rw [hx.cells _ _ (by first | (simp; done) | (simp; omega))] | rw [hx.frozens _ _ (by first | (simp; done) | (simp; omega))]); (first | (simp [go_sem]; done) | (simp [go_sem, World.cell?_alloc_past]; done) | (simp [go_sem, World.frozen?]; done))))
  go_enter Try.func22, Try.ntmps22
  go_wp2_with (go_at_call 26; refine (wallsOf_any _ _ _ _ (hp.ext (by (repeat (first | exact Ext.refl _ | assumption | apply Ext.alloc | apply Ext.drew | apply Ext.drewN | (refine Ext.trans ?_ (by assumption)))))) hn).mono ?_; rintro e wa ⟨A', c', rfl, hrw, hx⟩)
  go_loopw [15] (fun i wr => ∃ k : Nat, k ≤ l.length ∧ i = .int .i64 k ∧ Ext wa wr ∧ Hid (clearTo l ax ay bx by_ k = true)) (fun i _ => l.length - (intOf i).toNat)
  case atStart => exact ⟨0, Nat.zero_le _, rfl, Ext.refl _, hide rfl⟩
  case round =>
    obtain ⟨k, hk, rfl, hbl, HC⟩ := hrel
    obtain ⟨wq, rfl⟩ : ∃ wq : World, wq = wr := ⟨_, rfl⟩
    have fb := HB.out wq (by (repeat (first | exact Ext.refl _ | assumption | apply Ext.alloc | apply Ext.drew | apply Ext.drewN | (refine Ext.trans ?_ (by assumption)))))
    by_cases hlt : k < l.length
    · have q2 : (k : Int) < (l.length : Int) := by omega
      obtain ⟨g, rfl, hg, c1, c2, c3, c4⟩ := (hrw.ext hbl) k hlt
      cases ho : crsE l ax ay bx by_ k
      · have HO := hide ho
        unfold crsE at ho
        go_wp2_with (go_at_call 27; refine (crosses_any _ _ _ _ _ _ _ _ _).mono ?_; rintro e w3 ⟨rfl, hb3⟩)
        go_roundw
        case rel => exact ⟨k + 1, by omega, by go_num, by (repeat (first | exact Ext.refl _ | assumption | apply Ext.alloc | apply Ext.drew | apply Ext.drewN | (refine Ext.trans ?_ (by assumption)))), hide (by rw [clearTo_succ, HC.out, HO.out]; rfl)⟩
        case measure => simp [intOf]; omega
      · have HV := hide (seesV_cross hlt ho)
        unfold crsE at ho
        go_wp2_with (go_at_call 27; refine (crosses_any _ _ _ _ _ _ _ _ _).mono ?_; rintro e w3 ⟨rfl, hb3⟩)
        go_ret
        exact ⟨ret_bool (by rw [HV.out]), by (repeat (first | exact Ext.refl _ | assumption | apply Ext.alloc | apply Ext.drew | apply Ext.drewN | (refine Ext.trans ?_ (by assumption))))⟩
    · have q2 : ¬ (k : Int) < (l.length : Int) := by omega
      have HCC := hide (show clearTo l ax ay bx by_ l.length = true by rw [show l.length = k by omega]; exact HC.out)
      clear HC hrw
      go_wp2_with (go_at_call 43; refine (cornersBetween_any _ _ _ _ _ _ _ _ (hp.ext (by (repeat (first | exact Ext.refl _ | assumption | apply Ext.alloc | apply Ext.drew | apply Ext.drewN | (refine Ext.trans ?_ (by assumption)))))) HR.out HPA.out HPB.out).mono ?_; rintro e wc ⟨A2, c2, s, rfl, hs1, hs2, hs3, hs4⟩)
      have hsl : 2 ≤ s.length ∧ s.length ≤ 12 := by
        have := cutsTo_length l ax ay bx by_ l.length
        have e := hs1.length_eq
        unfold cuts at e
        omega
      obtain ⟨b2, off2, rfl⟩ := hs3.some_ (by omega)
      have HNO := hide (fun (i : Nat) (hi : i + 1 < s.length) h => sees_no HR.out HPA.out HPB.out hs1 hs2 hi h)
      have HYES := hide (sees_yes HR.out HPA.out HPB.out hs1 hs2 HCC.out)
      have HPK := hide (fun (i : Nat) (hi : i < s.length) => cuts_pok HF.out HPA.out HPB.out hs1 hi)
      clear hs1 hs2
      go_loopw [10] (fun i wr => ∃ j : Nat, j + 1 ≤ s.length ∧ i = .int .i64 ((j : Int) + 1) ∧ Ext wc wr ∧ Hid (∀ i, i < j → (midP l (gx s i) (gy s i) (gx s (i + 1)) (gy s (i + 1)) == 0) = false)) (fun i _ => s.length - (intOf i).toNat)
      case atStart => exact ⟨0, by omega, rfl, Ext.refl _, hide (fun i hi => absurd hi (by omega))⟩
      case round =>
        obtain ⟨j, hj, rfl, hbj, HJ⟩ := hrel
        obtain ⟨wj, rfl⟩ : ∃ wj : World, wj = wr := ⟨_, rfl⟩
        have fb := HB.out wj (by (repeat (first | exact Ext.refl _ | assumption | apply Ext.alloc | apply Ext.drew | apply Ext.drewN | (refine Ext.trans ?_ (by assumption)))))
        by_cases hlj : j + 1 < s.length
        · have q3 : (j : Int) + 1 < (s.length : Int) := by omega
          have hj0 : j < s.length := by omega
          have hsj := hs3.ext hbj
          have q4 : IntKind.i64.wrap (j : Int) = (j : Int) := wrap_in _ (by omega) (by omega)
          have q5 : (j : Int) < (s.length : Int) := by omega
          cases hv : (midP l (gx s j) (gy s j) (gx s (j + 1)) (gy s (j + 1)) == 0)
          · have HV := hide hv
            go_wp2
            refine wp_flow (by kernel_rfl) (by kernel_rfl) (fun u => ⟨#[_, _, _, _, _, _, _, _, _, _, _, _, _, _, _, _, _, _, _, _, _, _, _, _, _, _, _, _, _, _, _, _, _, _, _, u 0, u 1, u 2, u 3, u 4, u 5, u 6, u 7, u 8, u 9, u 10, u 11], _⟩) (fun i => List.getD [_, _, _, _, _, _, _, _, _, _, _, _] i undef) [is ?v1_0, is ?v1_1, is ?v1_2, is ?v1_3, is ?v1_4, is ?v1_5, is ?v1_6, is ?v1_7, is ?v1_8, is ?v1_9, is ?v1_10, is ?v1_11] (fun w' => w'.cell? ⟨w.heap.size, 0, none⟩ = some (.slice (some ⟨b, off, none⟩) l.length c) ∧ w.heap.size < w'.heap.size ∧ w'.cell? ⟨w.heap.size + 1, 0, none⟩ = some (.int .i64 ax) ∧ w'.cell? ⟨w.heap.size + 1, 1, none⟩ = some (.int .i64 ay) ∧ w.heap.size + 1 < w'.heap.size ∧ w'.cell? ⟨w.heap.size + 1 + 1, 0, none⟩ = some (.int .i64 bx) ∧ w'.cell? ⟨w.heap.size + 1 + 1, 1, none⟩ = some (.int .i64 by_) ∧ w.heap.size + 1 + 1 < w'.heap.size ∧ w'.cell? ⟨b2, off2 + j * 2, none⟩ = some (.int .i64 (gx s (j))) ∧ w'.cell? ⟨b2, off2 + j * 2 + 1, none⟩ = some (.int .i64 (gy s (j))) ∧ w'.cell? ⟨b2, off2 + (j + 1) * 2, none⟩ = some (.int .i64 (gx s ((j + 1)))) ∧ w'.cell? ⟨b2, off2 + (j + 1) * 2 + 1, none⟩ = some (.int .i64 (gy s ((j + 1))))) _ rfl ?hC1 ?hs1 ?hV1 ?fin1
            case hC1 => exact fun w' hx => (by have hq : Ext _ w' := hx; have hf0 := HB.out w' (by (repeat (first | exact Ext.refl _ | assumption | apply Ext.alloc | apply Ext.drew | apply Ext.drewN | (refine Ext.trans ?_ (by assumption))))); and_intros <;> first | exact hf0 | exact hf0.1 | exact hf0.2.1 | exact hf0.2.2.1 | exact hf0.2.2.2.1 | exact hf0.2.2.2.2.1 | exact hf0.2.2.2.2.2.1 | exact hf0.2.2.2.2.2.2.1 | exact hf0.2.2.2.2.2.2.2.1 | exact hf0.2.2.2.2.2.2.2.2.1 | exact hf0.2.2.2.2.2.2.2.2.2.1 | exact hf0.2.2.2.2.2.2.2.2.2.2.1 | exact hf0.2.2.2.2.2.2.2.2.2.2.2.1 | exact hf0.2.2.2.2.2.2.2.2.2.2.2.2.1 | exact hf0.2.2.2.2.2.2.2.2.2.2.2.2.2.1 | exact hf0.2 | exact hf0.2.2 | exact hf0.2.2.2 | exact hf0.2.2.2.2 | exact hf0.2.2.2.2.2 | exact hf0.2.2.2.2.2.2 | exact hf0.2.2.2.2.2.2.2 | exact hf0.2.2.2.2.2.2.2.2 | exact hf0.2.2.2.2.2.2.2.2.2 | exact hf0.2.2.2.2.2.2.2.2.2.2 | exact hf0.2.2.2.2.2.2.2.2.2.2.2 | exact hf0.2.2.2.2.2.2.2.2.2.2.2.2 | exact hf0.2.2.2.2.2.2.2.2.2.2.2.2.2 | exact ((hsj.ext hq).cell hj0).2.1 | exact ((hsj.ext hq).cell hj0).2.2 | exact ((hsj.ext hq).cell hlj).2.1 | exact ((hsj.ext hq).cell hlj).2.2)
            case hs1 =>
              repeat' (first
                | exact FSteps.nil
                | refine FSteps.cons ?_ ?_
                | (refine FStep.off_ _ _ _ rfl rfl ?_ (fun _ => rfl) ?_; (focus (intro u w hd; simp [vOf, is, Region.binds] at hd; simp [hd])); (intro w'; exact rfl); done)
                | ((first
                    | refine FStep.plain rfl ?_
                    | (refine FStep.on_ _ _ _ rfl rfl ?_ ?_; (focus (intro u w hd; simp [vOf, is, Region.binds] at hd; simp [hd]))))
                   intro u w hW hC hd K hK
                   (try simp [vOf, is, Region.binds] at hd)
                   simp only [upd, Nat.reduceEqDiff, if_true, if_false] at hK
                   (try simp only [hd] at hK)
                   go_simp
                   (first
                     | (refine hK _ _ ?_ ?_; (first | exact rfl); (repeat (first | exact Ext.refl _ | assumption | apply Ext.alloc | apply Ext.drew | apply Ext.drewN | (refine Ext.trans ?_ (by assumption)))))
                     | (go_at_call 44; refine (middle_any _ _ _ _ _ _ _ _ (hp.ext (by (repeat (first | exact Ext.refl _ | assumption | apply Ext.alloc | apply Ext.drew | apply Ext.drewN | (refine Ext.trans ?_ (by assumption)))))) HR.out (HPK.out j (by omega)) (HPK.out (j + 1) hlj)).mono ?_; rintro e w1 ⟨rfl, hb⟩; (try go_simp); refine hK _ _ ?_ ?_; (first | exact rfl); (repeat (first | exact Ext.refl _ | assumption | apply Ext.alloc | apply Ext.drew | apply Ext.drewN | (refine Ext.trans ?_ (by assumption))))))))
            case hV1 => (simp only [List.forall_mem_cons]; simp [stable_is])
            case fin1 =>
              intro u w2 hW2 hC2 hd
              simp only [AllV, is] at hd
              simp only [hd]
              clear hd
              clear hC2 fb
              go_wp2
              go_roundw
              case rel => exact ⟨j + 1, by omega, by go_num, by (repeat (first | exact Ext.refl _ | assumption | apply Ext.alloc | apply Ext.drew | apply Ext.drewN | (refine Ext.trans ?_ (by assumption)))), hide (fun i hi => by by_cases e : i = j; (subst e; exact HV.out); exact HJ.out i (by omega))⟩
              case measure => simp [intOf]; omega
          · have HV := hide (HNO.out j hlj hv)
            go_wp2
            refine wp_flow (by kernel_rfl) (by kernel_rfl) (fun u => ⟨#[_, _, _, _, _, _, _, _, _, _, _, _, _, _, _, _, _, _, _, _, _, _, _, _, _, _, _, _, _, _, _, _, _, _, _, u 0, u 1, u 2, u 3, u 4, u 5, u 6, u 7, u 8, u 9, u 10, u 11], _⟩) (fun i => List.getD [_, _, _, _, _, _, _, _, _, _, _, _] i undef) [is ?v2_0, is ?v2_1, is ?v2_2, is ?v2_3, is ?v2_4, is ?v2_5, is ?v2_6, is ?v2_7, is ?v2_8, is ?v2_9, is ?v2_10, is ?v2_11] (fun w' => w'.cell? ⟨w.heap.size, 0, none⟩ = some (.slice (some ⟨b, off, none⟩) l.length c) ∧ w.heap.size < w'.heap.size ∧ w'.cell? ⟨w.heap.size + 1, 0, none⟩ = some (.int .i64 ax) ∧ w'.cell? ⟨w.heap.size + 1, 1, none⟩ = some (.int .i64 ay) ∧ w.heap.size + 1 < w'.heap.size ∧ w'.cell? ⟨w.heap.size + 1 + 1, 0, none⟩ = some (.int .i64 bx) ∧ w'.cell? ⟨w.heap.size + 1 + 1, 1, none⟩ = some (.int .i64 by_) ∧ w.heap.size + 1 + 1 < w'.heap.size ∧ w'.cell? ⟨b2, off2 + j * 2, none⟩ = some (.int .i64 (gx s (j))) ∧ w'.cell? ⟨b2, off2 + j * 2 + 1, none⟩ = some (.int .i64 (gy s (j))) ∧ w'.cell? ⟨b2, off2 + (j + 1) * 2, none⟩ = some (.int .i64 (gx s ((j + 1)))) ∧ w'.cell? ⟨b2, off2 + (j + 1) * 2 + 1, none⟩ = some (.int .i64 (gy s ((j + 1))))) _ rfl ?hC2 ?hs2 ?hV2 ?fin2
            case hC2 => exact fun w' hx => (by have hq : Ext _ w' := hx; have hf0 := HB.out w' (by (repeat (first | exact Ext.refl _ | assumption | apply Ext.alloc | apply Ext.drew | apply Ext.drewN | (refine Ext.trans ?_ (by assumption))))); and_intros <;> first | exact hf0 | exact hf0.1 | exact hf0.2.1 | exact hf0.2.2.1 | exact hf0.2.2.2.1 | exact hf0.2.2.2.2.1 | exact hf0.2.2.2.2.2.1 | exact hf0.2.2.2.2.2.2.1 | exact hf0.2.2.2.2.2.2.2.1 | exact hf0.2.2.2.2.2.2.2.2.1 | exact hf0.2.2.2.2.2.2.2.2.2.1 | exact hf0.2.2.2.2.2.2.2.2.2.2.1 | exact hf0.2.2.2.2.2.2.2.2.2.2.2.1 | exact hf0.2.2.2.2.2.2.2.2.2.2.2.2.1 | exact hf0.2.2.2.2.2.2.2.2.2.2.2.2.2.1 | exact hf0.2 | exact hf0.2.2 | exact hf0.2.2.2 | exact hf0.2.2.2.2 | exact hf0.2.2.2.2.2 | exact hf0.2.2.2.2.2.2 | exact hf0.2.2.2.2.2.2.2 | exact hf0.2.2.2.2.2.2.2.2 | exact hf0.2.2.2.2.2.2.2.2.2 | exact hf0.2.2.2.2.2.2.2.2.2.2 | exact hf0.2.2.2.2.2.2.2.2.2.2.2 | exact hf0.2.2.2.2.2.2.2.2.2.2.2.2 | exact hf0.2.2.2.2.2.2.2.2.2.2.2.2.2 | exact ((hsj.ext hq).cell hj0).2.1 | exact ((hsj.ext hq).cell hj0).2.2 | exact ((hsj.ext hq).cell hlj).2.1 | exact ((hsj.ext hq).cell hlj).2.2)
            case hs2 =>
              repeat' (first
                | exact FSteps.nil
                | refine FSteps.cons ?_ ?_
                | (refine FStep.off_ _ _ _ rfl rfl ?_ (fun _ => rfl) ?_; (focus (intro u w hd; simp [vOf, is, Region.binds] at hd; simp [hd])); (intro w'; exact rfl); done)
                | ((first
                    | refine FStep.plain rfl ?_
                    | (refine FStep.on_ _ _ _ rfl rfl ?_ ?_; (focus (intro u w hd; simp [vOf, is, Region.binds] at hd; simp [hd]))))
                   intro u w hW hC hd K hK
                   (try simp [vOf, is, Region.binds] at hd)
                   simp only [upd, Nat.reduceEqDiff, if_true, if_false] at hK
                   (try simp only [hd] at hK)
                   go_simp
                   (first
                     | (refine hK _ _ ?_ ?_; (first | exact rfl); (repeat (first | exact Ext.refl _ | assumption | apply Ext.alloc | apply Ext.drew | apply Ext.drewN | (refine Ext.trans ?_ (by assumption)))))
                     | (go_at_call 44; refine (middle_any _ _ _ _ _ _ _ _ (hp.ext (by (repeat (first | exact Ext.refl _ | assumption | apply Ext.alloc | apply Ext.drew | apply Ext.drewN | (refine Ext.trans ?_ (by assumption)))))) HR.out (HPK.out j (by omega)) (HPK.out (j + 1) hlj)).mono ?_; rintro e w1 ⟨rfl, hb⟩; (try go_simp); refine hK _ _ ?_ ?_; (first | exact rfl); (repeat (first | exact Ext.refl _ | assumption | apply Ext.alloc | apply Ext.drew | apply Ext.drewN | (refine Ext.trans ?_ (by assumption))))))))
            case hV2 => (simp only [List.forall_mem_cons]; simp [stable_is])
            case fin2 =>
              intro u w2 hW2 hC2 hd
              simp only [AllV, is] at hd
              simp only [hd]
              clear hd
              go_wp2
              go_ret
              exact ⟨ret_bool (by rw [HV.out]), by (repeat (first | exact Ext.refl _ | assumption | apply Ext.alloc | apply Ext.drew | apply Ext.drewN | (refine Ext.trans ?_ (by assumption))))⟩
        · have q3 : ¬ (j : Int) + 1 < (s.length : Int) := by omega
          have HV := hide (HYES.out (fun i hi => HJ.out i (by omega)))
          go_wp2
          go_ret
          exact ⟨ret_bool (by rw [HV.out]), by (repeat (first | exact Ext.refl _ | assumption | apply Ext.alloc | apply Ext.drew | apply Ext.drewN | (refine Ext.trans ?_ (by assumption))))⟩

/-- Sees, as both texts give it -/
def seesB (l : List (Int × Int)) (ax ay bx by_ : Int) : Bool := (isInV l ax ay && isInV l bx by_) && seesV l ax ay bx by_

set_option maxRecDepth 100000 in
set_option maxHeartbeats 3200000 in
theorem Sees_any (A : Option Addr) (l : List (Int × Int)) (c : Nat) (ax ay bx by_ : Int) (w : World) (hp : RPts w A l) (hn : l.length ≤ 1048576) :
    Calls Try.prog 7 #[.agg #[.slice A l.length c], .agg #[.int .i64 ax, .int .i64 ay], .agg #[.int .i64 bx, .int .i64 by_]] w fun e w' => e = .returned (.bool (seesB l ax ay bx by_)) ∧ Ext w w' := by
  have HB : Hid (∀ w', Ext (((w.alloc (.cells #[.slice A l.length c] 26)).alloc (.cells #[.int .i64 ax, .int .i64 ay] 28)).alloc (.cells #[.int .i64 bx, .int .i64 by_] 28)) w' → w'.cell? ⟨w.heap.size, 0, none⟩ = some (.slice A l.length c) ∧ w.heap.size < w'.heap.size ∧ w'.cell? ⟨w.heap.size + 1, 0, none⟩ = some (.int .i64 ax) ∧ w'.cell? ⟨w.heap.size + 1, 1, none⟩ = some (.int .i64 ay) ∧ w.heap.size + 1 < w'.heap.size ∧ w'.cell? ⟨w.heap.size + 1 + 1, 0, none⟩ = some (.int .i64 bx) ∧ w'.cell? ⟨w.heap.size + 1 + 1, 1, none⟩ = some (.int .i64 by_) ∧ w.heap.size + 1 + 1 < w'.heap.size) := fun w' hx => by
    and_intros <;> (first | (have hz := hx.size; simp at hz; omega) | ((first | rw [hx.cells _ _ (by first | (simp; done) | (simp; omega))] | rw [hx.frozens _ _ (by first | (simp; done) | (simp; omega))]); (first | (simp [go_sem]; done) | (simp [go_sem, World.cell?_alloc_past]; done) | (simp [go_sem, World.frozen?]; done))))
  have hB2 : RPts ((((w.alloc (.cells #[.slice A l.length c] 26)).alloc (.cells #[.int .i64 ax, .int .i64 ay] 28)).alloc (.cells #[.int .i64 bx, .int .i64 by_] 28)).alloc (.cells #[.int .i64 ax, .int .i64 ay, .int .i64 bx, .int .i64 by_] 28)) (some ⟨w.heap.size + 1 + 1 + 1, 0, none⟩) [(ax, ay), (bx, by_)] := by
    have h := rpts_two (((w.alloc (.cells #[.slice A l.length c] 26)).alloc (.cells #[.int .i64 ax, .int .i64 ay] 28)).alloc (.cells #[.int .i64 bx, .int .i64 by_] 28)) ax ay bx by_ 28
    have e : (((w.alloc (.cells #[.slice A l.length c] 26)).alloc (.cells #[.int .i64 ax, .int .i64 ay] 28)).alloc (.cells #[.int .i64 bx, .int .i64 by_] 28)).heap.size = w.heap.size + 1 + 1 + 1 := by simp
    rw [e] at h
    exact h
  have HB2 := hide hB2
  clear hB2
  obtain ⟨u, hu⟩ : ∃ u, u = allInV l [(ax, ay), (bx, by_)] := ⟨_, rfl⟩
  have HU := hide hu
  rw [allIn_two] at hu
  cases u
  · have HV := hide (show seesB l ax ay bx by_ = false by unfold seesB; rw [← hu]; rfl)
    clear hu
    go_enter Try.func7, Try.ntmps7
    go_wp2_with (go_at_call 21; refine (allIn_any A _ l [(ax, ay), (bx, by_)] c 2 _ (hp.ext (by (repeat (first | exact Ext.refl _ | assumption | apply Ext.alloc | apply Ext.drew | apply Ext.drewN | (refine Ext.trans ?_ (by assumption)))))) HB2.out hn (by show (2 : Nat) ≤ 1048576; decide)).mono ?_; rw [← HU.out]; rintro e w1 ⟨rfl, hb1⟩)
    go_ret
    exact ⟨ret_bool (by rw [HV.out]), by (repeat (first | exact Ext.refl _ | assumption | apply Ext.alloc | apply Ext.drew | apply Ext.drewN | (refine Ext.trans ?_ (by assumption))))⟩
  · have HV := hide (show seesB l ax ay bx by_ = seesV l ax ay bx by_ by unfold seesB; rw [← hu]; rfl)
    have HIA := hide (isIn_iff.1 (Bool.and_eq_true _ _ ▸ hu.symm).1)
    have HIB := hide (isIn_iff.1 (Bool.and_eq_true _ _ ▸ hu.symm).2)
    clear hu
    go_enter Try.func7, Try.ntmps7
    go_wp2_with (first | (go_at_call 21; refine (allIn_any A _ l [(ax, ay), (bx, by_)] c 2 _ (hp.ext (by (repeat (first | exact Ext.refl _ | assumption | apply Ext.alloc | apply Ext.drew | apply Ext.drewN | (refine Ext.trans ?_ (by assumption)))))) HB2.out hn (by show (2 : Nat) ≤ 1048576; decide)).mono ?_; rw [← HU.out]; rintro e w1 ⟨rfl, hb1⟩; have f1 := HB.out w1 (by (repeat (first | exact Ext.refl _ | assumption | apply Ext.alloc | apply Ext.drew | apply Ext.drewN | (refine Ext.trans ?_ (by assumption)))))) | (go_at_call 22; refine (sees_any _ _ _ _ _ _ _ _ (hp.ext (by (repeat (first | exact Ext.refl _ | assumption | apply Ext.alloc | apply Ext.drew | apply Ext.drewN | (refine Ext.trans ?_ (by assumption)))))) HIA.out.2.1 HIA.out.1 HIB.out.1).mono ?_; rintro e w2 ⟨rfl, hb2⟩))
    go_ret
    exact ⟨ret_bool (by rw [HV.out]), by (repeat (first | exact Ext.refl _ | assumption | apply Ext.alloc | apply Ext.drew | apply Ext.drewN | (refine Ext.trans ?_ (by assumption))))⟩

end Go.Proofs.Ytjccilpjaaiicaa
