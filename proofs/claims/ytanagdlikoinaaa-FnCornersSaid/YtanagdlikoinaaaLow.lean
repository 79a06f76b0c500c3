/-
  Contracts: LowestCorner.
-/
import Derived.Test.YtanagdlikoinaaaCor
namespace Go.Proofs.Ytanagdlikoinaaa
open Go.RowKit

/-- point k lies lower than point m -/
def lowB (l : List (Int × Int)) (k m : Nat) : Bool := decide (gy l k < gy l m) || ((gy l k == gy l m) && decide (gx l k < gx l m))
/-- the lowest of the first k points -/
def lowTo (l : List (Int × Int)) : Nat → Nat
  | 0 => 0
  | k + 1 => if lowB l k (lowTo l k) = true then k else lowTo l k
theorem lowTo_succ (l : List (Int × Int)) (k : Nat) : lowTo l (k + 1) = if lowB l k (lowTo l k) = true then k else lowTo l k := rfl
theorem lowTo_le (l : List (Int × Int)) : ∀ k, lowTo l k ≤ k
  | 0 => Nat.le_refl _
  | k + 1 => by
    rw [lowTo_succ]
    split
    · omega
    · have := lowTo_le l k; omega
theorem lowTo_lt (l : List (Int × Int)) (k : Nat) (h : 0 < k) : lowTo l k < k := by
  obtain ⟨j, rfl⟩ : ∃ j, k = j + 1 := ⟨k - 1, by omega⟩
  rw [lowTo_succ]
  split
  · omega
  · have := lowTo_le l j; omega
theorem lowB_self (l : List (Int × Int)) (k : Nat) : lowB l k k = false := by simp [lowB]
/-- LowestCorner, as both texts give it -/
def lowV (l : List (Int × Int)) : Int := if roomB l = true then (lowTo l l.length : Int) else -1

set_option maxRecDepth 100000 in
set_option maxHeartbeats 1600000 in
theorem lowest_any (A : Option Addr) (l : List (Int × Int)) (c : Nat) (w : World) (hp : RPts w A l) (hn : l.length ≤ 1048576) :
    Calls Try.prog 31 #[.slice A l.length c] w fun e w' => e = .returned (.int .i64 (lowTo l l.length)) ∧ Ext w w' := by
  go_enter Try.func31, Try.ntmps31
  go_wp2
  go_loopw [3, 8] (fun best i wr => ∃ k m : Nat, k ≤ l.length ∧ i = .int .i64 k ∧ best = .int .i64 m ∧ Hid (m = lowTo l k) ∧ m ≤ k ∧ Ext w wr) (fun _ i _ => l.length - (intOf i).toNat)
  case atStart => exact ⟨0, 0, Nat.zero_le _, rfl, rfl, rfl, Nat.le_refl _, Ext.refl w⟩
  case round =>
    obtain ⟨k, m, hk, rfl, rfl, HM, hmk, hbl⟩ := hrel
    by_cases hlt : k < l.length
    · have hml : m < l.length := by omega
      have hpr := hp.ext hbl
      obtain ⟨b, off, rfl⟩ := hpr.some_ (by omega)
      obtain ⟨hz, hx0, hy0⟩ := hpr.cell hlt
      obtain ⟨_, hx1, hy1⟩ := hpr.cell hml
      have i1 : (0 : Int) ≤ (m : Int) := by omega
      have i2 : (m : Int) < (l.length : Int) := by omega
      have hz2 : b < (wr.alloc (.cells #[.int .i64 (gx l k), .int .i64 (gy l k)] 38)).heap.size := by simp; omega
      cases e1 : decide (gy l k < gy l m)
      · cases e2 : (gy l k == gy l m)
        · have HS := hide (show lowB l k m = false by simp [lowB, e1, e2])
          go_wp2
          refine wp_flow (by kernel_rfl) (by kernel_rfl) (fun u => ⟨#[_, _, _, _, _, _, _, _, _, _, _, _, _, u 0, u 1, u 2, u 3, u 4, u 5, u 6, u 7, u 8, u 9, u 10, u 11, u 12, u 13, u 14, u 15, u 16, u 17, u 18, u 19, u 20, u 21, u 22, u 23, u 24, u 25, u 26, u 27, _, _, _], _⟩) (fun i => List.getD [_, _, _, _, _, _, _, _, _, _, _, _, _, _, _, _, _, _, _, _, _, _, _, _, _, _, _, _] i undef) [is ?v1_0, is ?v1_1, is ?v1_2, is ?v1_3, is ?v1_4, is ?v1_5, is ?v1_6, is ?v1_7, is ?v1_8, is ?v1_9, is ?v1_10, is ?v1_11, is ?v1_12, is ?v1_13, is ?v1_14, is ?v1_15, is ?v1_16, is ?v1_17, is ?v1_18, is ?v1_19, is ?v1_20, is ?v1_21, is ?v1_22, is ?v1_23, is ?v1_24, is ?v1_25, is ?v1_26, is ?v1_27] (fun w' => w'.cell? ⟨wr.heap.size, 0, none⟩ = some (.int .i64 (gx l k)) ∧ w'.cell? ⟨wr.heap.size, 1, none⟩ = some (.int .i64 (gy l k)) ∧ w'.cell? ⟨b, off + m * 2, none⟩ = some (.int .i64 (gx l (m))) ∧ w'.cell? ⟨b, off + m * 2 + 1, none⟩ = some (.int .i64 (gy l (m)))) _ rfl ?hC1 ?hs1 ?hV1 ?fin1
          case hC1 => (intro w' hx; and_intros <;> (first | (refine (Eq.trans (hx.cells _ _ ?_) ?_) <;> first | assumption | omega | (simp; done) | (simp; omega) | (simp [go_sem, World.cell?_alloc_past, *]; done)) | (have hz := hx.size; first | omega | (simp at hz; omega))))
          case hs1 =>
            repeat' (first
              | exact FSteps.nil
              | refine FSteps.cons ?_ ?_
              | (refine FStep.off_ _ _ _ rfl rfl ?_ (fun _ => rfl) ?_; (focus (intro u w hd; simp [vOf, is, Region.binds] at hd; simp [hd])); (intro w'; exact rfl); done)
              | ((first
                  | refine FStep.plain rfl ?_
                  | (refine FStep.on_ _ _ _ rfl rfl ?_ ?_; (focus (intro u w hd; simp [vOf, is, Region.binds] at hd; simp [hd]))))
                 intro u w hW hC hd K hK
                 (try simp [vOf, is, Region.binds] at hd)
                 simp only [upd, Nat.reduceEqDiff, if_true, if_false] at hK
                 (try simp only [hd] at hK)
                 go_simp
                 (first
                   | (refine hK _ _ ?_ ?_; (first | exact rfl); (repeat (first | exact Ext.refl _ | assumption | apply Ext.alloc | apply Ext.drew | apply Ext.drewN | (refine Ext.trans ?_ (by assumption))))))))
          case hV1 => (simp only [List.forall_mem_cons]; simp [stable_is])
          case fin1 =>
            intro u w2 hW2 hC2 hd
            simp only [AllV, is] at hd
            simp only [hd]
            clear hd
            clear hC2 hx0 hy0 hx1 hy1 e1 e2
            go_wp2
            go_roundw
            case rel => exact ⟨k + 1, m, by omega, by go_num, rfl, by unfold Hid; rw [lowTo_succ, ← HM.out, HS.out]; rfl, by omega, by (repeat (first | exact Ext.refl _ | assumption | apply Ext.alloc | apply Ext.drew | apply Ext.drewN | (refine Ext.trans ?_ (by assumption))))⟩
            case measure => simp [intOf]; omega
        · cases e3 : decide (gx l k < gx l m)
          · have HS := hide (show lowB l k m = false by simp [lowB, e1, e2, e3])
            go_wp2
            refine wp_flow (by kernel_rfl) (by kernel_rfl) (fun u => ⟨#[_, _, _, _, _, _, _, _, _, _, _, _, _, u 0, u 1, u 2, u 3, u 4, u 5, u 6, u 7, u 8, u 9, u 10, u 11, u 12, u 13, u 14, u 15, u 16, u 17, u 18, u 19, u 20, u 21, u 22, u 23, u 24, u 25, u 26, u 27, _, _, _], _⟩) (fun i => List.getD [_, _, _, _, _, _, _, _, _, _, _, _, _, _, _, _, _, _, _, _, _, _, _, _, _, _, _, _] i undef) [is ?v2_0, is ?v2_1, is ?v2_2, is ?v2_3, is ?v2_4, is ?v2_5, is ?v2_6, is ?v2_7, is ?v2_8, is ?v2_9, is ?v2_10, is ?v2_11, is ?v2_12, is ?v2_13, is ?v2_14, is ?v2_15, is ?v2_16, is ?v2_17, is ?v2_18, is ?v2_19, is ?v2_20, is ?v2_21, is ?v2_22, is ?v2_23, is ?v2_24, is ?v2_25, is ?v2_26, is ?v2_27] (fun w' => w'.cell? ⟨wr.heap.size, 0, none⟩ = some (.int .i64 (gx l k)) ∧ w'.cell? ⟨wr.heap.size, 1, none⟩ = some (.int .i64 (gy l k)) ∧ w'.cell? ⟨b, off + m * 2, none⟩ = some (.int .i64 (gx l (m))) ∧ w'.cell? ⟨b, off + m * 2 + 1, none⟩ = some (.int .i64 (gy l (m)))) _ rfl ?hC2 ?hs2 ?hV2 ?fin2
            case hC2 => (intro w' hx; and_intros <;> (first | (refine (Eq.trans (hx.cells _ _ ?_) ?_) <;> first | assumption | omega | (simp; done) | (simp; omega) | (simp [go_sem, World.cell?_alloc_past, *]; done)) | (have hz := hx.size; first | omega | (simp at hz; omega))))
            case hs2 =>
              repeat' (first
                | exact FSteps.nil
                | refine FSteps.cons ?_ ?_
                | (refine FStep.off_ _ _ _ rfl rfl ?_ (fun _ => rfl) ?_; (focus (intro u w hd; simp [vOf, is, Region.binds] at hd; simp [hd])); (intro w'; exact rfl); done)
                | ((first
                    | refine FStep.plain rfl ?_
                    | (refine FStep.on_ _ _ _ rfl rfl ?_ ?_; (focus (intro u w hd; simp [vOf, is, Region.binds] at hd; simp [hd]))))
                   intro u w hW hC hd K hK
                   (try simp [vOf, is, Region.binds] at hd)
                   simp only [upd, Nat.reduceEqDiff, if_true, if_false] at hK
                   (try simp only [hd] at hK)
                   go_simp
                   (first
                     | (refine hK _ _ ?_ ?_; (first | exact rfl); (repeat (first | exact Ext.refl _ | assumption | apply Ext.alloc | apply Ext.drew | apply Ext.drewN | (refine Ext.trans ?_ (by assumption))))))))
            case hV2 => (simp only [List.forall_mem_cons]; simp [stable_is])
            case fin2 =>
              intro u w2 hW2 hC2 hd
              simp only [AllV, is] at hd
              simp only [hd]
              clear hd
              clear hC2 hx0 hy0 hx1 hy1 e1 e2 e3
              go_wp2
              go_roundw
              case rel => exact ⟨k + 1, m, by omega, by go_num, rfl, by unfold Hid; rw [lowTo_succ, ← HM.out, HS.out]; rfl, by omega, by (repeat (first | exact Ext.refl _ | assumption | apply Ext.alloc | apply Ext.drew | apply Ext.drewN | (refine Ext.trans ?_ (by assumption))))⟩
              case measure => simp [intOf]; omega
          · have HS := hide (show lowB l k m = true by simp [lowB, e1, e2, e3])
            go_wp2
            refine wp_flow (by kernel_rfl) (by kernel_rfl) (fun u => ⟨#[_, _, _, _, _, _, _, _, _, _, _, _, _, u 0, u 1, u 2, u 3, u 4, u 5, u 6, u 7, u 8, u 9, u 10, u 11, u 12, u 13, u 14, u 15, u 16, u 17, u 18, u 19, u 20, u 21, u 22, u 23, u 24, u 25, u 26, u 27, _, _, _], _⟩) (fun i => List.getD [_, _, _, _, _, _, _, _, _, _, _, _, _, _, _, _, _, _, _, _, _, _, _, _, _, _, _, _] i undef) [is ?v3_0, is ?v3_1, is ?v3_2, is ?v3_3, is ?v3_4, is ?v3_5, is ?v3_6, is ?v3_7, is ?v3_8, is ?v3_9, is ?v3_10, is ?v3_11, is ?v3_12, is ?v3_13, is ?v3_14, is ?v3_15, is ?v3_16, is ?v3_17, is ?v3_18, is ?v3_19, is ?v3_20, is ?v3_21, is ?v3_22, is ?v3_23, is ?v3_24, is ?v3_25, is ?v3_26, is ?v3_27] (fun w' => w'.cell? ⟨wr.heap.size, 0, none⟩ = some (.int .i64 (gx l k)) ∧ w'.cell? ⟨wr.heap.size, 1, none⟩ = some (.int .i64 (gy l k)) ∧ w'.cell? ⟨b, off + m * 2, none⟩ = some (.int .i64 (gx l (m))) ∧ w'.cell? ⟨b, off + m * 2 + 1, none⟩ = some (.int .i64 (gy l (m)))) _ rfl ?hC3 ?hs3 ?hV3 ?fin3
            case hC3 => (intro w' hx; and_intros <;> (first | (refine (Eq.trans (hx.cells _ _ ?_) ?_) <;> first | assumption | omega | (simp; done) | (simp; omega) | (simp [go_sem, World.cell?_alloc_past, *]; done)) | (have hz := hx.size; first | omega | (simp at hz; omega))))
            case hs3 =>
              repeat' (first
                | exact FSteps.nil
                | refine FSteps.cons ?_ ?_
                | (refine FStep.off_ _ _ _ rfl rfl ?_ (fun _ => rfl) ?_; (focus (intro u w hd; simp [vOf, is, Region.binds] at hd; simp [hd])); (intro w'; exact rfl); done)
                | ((first
                    | refine FStep.plain rfl ?_
                    | (refine FStep.on_ _ _ _ rfl rfl ?_ ?_; (focus (intro u w hd; simp [vOf, is, Region.binds] at hd; simp [hd]))))
                   intro u w hW hC hd K hK
                   (try simp [vOf, is, Region.binds] at hd)
                   simp only [upd, Nat.reduceEqDiff, if_true, if_false] at hK
                   (try simp only [hd] at hK)
                   go_simp
                   (first
                     | (refine hK _ _ ?_ ?_; (first | exact rfl); (repeat (first | exact Ext.refl _ | assumption | apply Ext.alloc | apply Ext.drew | apply Ext.drewN | (refine Ext.trans ?_ (by assumption))))))))
            case hV3 => (simp only [List.forall_mem_cons]; simp [stable_is])
            case fin3 =>
              intro u w2 hW2 hC2 hd
              simp only [AllV, is] at hd
              simp only [hd]
              clear hd
              clear hC2 hx0 hy0 hx1 hy1 e1 e2 e3
              go_wp2
              go_roundw
              case rel => exact ⟨k + 1, k, by omega, by go_num, rfl, by unfold Hid; rw [lowTo_succ, ← HM.out, HS.out]; rfl, by omega, by (repeat (first | exact Ext.refl _ | assumption | apply Ext.alloc | apply Ext.drew | apply Ext.drewN | (refine Ext.trans ?_ (by assumption))))⟩
              case measure => simp [intOf]; omega
      · have HS := hide (show lowB l k m = true by simp [lowB, e1])
        go_wp2
        refine wp_flow (by kernel_rfl) (by kernel_rfl) (fun u => ⟨#[_, _, _, _, _, _, _, _, _, _, _, _, _, u 0, u 1, u 2, u 3, u 4, u 5, u 6, u 7, u 8, u 9, u 10, u 11, u 12, u 13, u 14, u 15, u 16, u 17, u 18, u 19, u 20, u 21, u 22, u 23, u 24, u 25, u 26, u 27, _, _, _], _⟩) (fun i => List.getD [_, _, _, _, _, _, _, _, _, _, _, _, _, _, _, _, _, _, _, _, _, _, _, _, _, _, _, _] i undef) [is ?v4_0, is ?v4_1, is ?v4_2, is ?v4_3, is ?v4_4, is ?v4_5, is ?v4_6, is ?v4_7, is ?v4_8, is ?v4_9, is ?v4_10, is ?v4_11, is ?v4_12, is ?v4_13, is ?v4_14, is ?v4_15, is ?v4_16, is ?v4_17, is ?v4_18, is ?v4_19, is ?v4_20, is ?v4_21, is ?v4_22, is ?v4_23, is ?v4_24, is ?v4_25, is ?v4_26, is ?v4_27] (fun w' => w'.cell? ⟨wr.heap.size, 0, none⟩ = some (.int .i64 (gx l k)) ∧ w'.cell? ⟨wr.heap.size, 1, none⟩ = some (.int .i64 (gy l k)) ∧ w'.cell? ⟨b, off + m * 2, none⟩ = some (.int .i64 (gx l (m))) ∧ w'.cell? ⟨b, off + m * 2 + 1, none⟩ = some (.int .i64 (gy l (m)))) _ rfl ?hC4 ?hs4 ?hV4 ?fin4
        case hC4 => (intro w' hx; and_intros <;> (first | (refine (Eq.trans (hx.cells _ _ ?_) ?_) <;> first | assumption | omega | (simp; done) | (simp; omega) | (simp [go_sem, World.cell?_alloc_past, *]; done)) | (have hz := hx.size; first | omega | (simp at hz; omega))))
        case hs4 =>
          repeat' (first
            | exact FSteps.nil
            | refine FSteps.cons ?_ ?_
            | (refine FStep.off_ _ _ _ rfl rfl ?_ (fun _ => rfl) ?_; (focus (intro u w hd; simp [vOf, is, Region.binds] at hd; simp [hd])); (intro w'; exact rfl); done)
            | ((first
                | refine FStep.plain rfl ?_
                | (refine FStep.on_ _ _ _ rfl rfl ?_ ?_; (focus (intro u w hd; simp [vOf, is, Region.binds] at hd; simp [hd]))))
               intro u w hW hC hd K hK
               (try simp [vOf, is, Region.binds] at hd)
               simp only [upd, Nat.reduceEqDiff, if_true, if_false] at hK
               (try simp only [hd] at hK)
               go_simp
               (first
                 | (refine hK _ _ ?_ ?_; (first | exact rfl); (repeat (first | exact Ext.refl _ | assumption | apply Ext.alloc | apply Ext.drew | apply Ext.drewN | (refine Ext.trans ?_ (by assumption))))))))
        case hV4 => (simp only [List.forall_mem_cons]; simp [stable_is])
        case fin4 =>
          intro u w2 hW2 hC2 hd
          simp only [AllV, is] at hd
          simp only [hd]
          clear hd
          clear hC2 hx0 hy0 hx1 hy1 e1
          go_wp2
          go_roundw
          case rel => exact ⟨k + 1, k, by omega, by go_num, rfl, by unfold Hid; rw [lowTo_succ, ← HM.out, HS.out]; rfl, by omega, by (repeat (first | exact Ext.refl _ | assumption | apply Ext.alloc | apply Ext.drew | apply Ext.drewN | (refine Ext.trans ?_ (by assumption))))⟩
          case measure => simp [intOf]; omega
    · have e : k = l.length := by omega
      have E := hide e
      clear e
      go_wp2
      go_ret
      exact ⟨ret_int (by rw [HM.out, E.out]), hbl⟩

theorem LowestCorner_any (A : Option Addr) (l : List (Int × Int)) (c : Nat) (w : World) (hp : RPts w A l) (hn : l.length ≤ 1048576) :
    Calls Try.prog 9 #[.agg #[.slice A l.length c]] w fun e w' => e = .returned (.int .i64 (lowV l)) ∧ Ext w w' := by
  have HB : Hid (∀ w', Ext (w.alloc (.cells #[.slice A l.length c] 26)) w' → w'.cell? ⟨w.heap.size, 0, none⟩ = some (.slice A l.length c) ∧ w.heap.size < w'.heap.size) := fun w' hx => by
    and_intros <;> (first | (have hz := hx.size; simp at hz; omega) | ((first | rw [hx.cells _ _ (by first | (simp; done) | (simp; omega))] | rw [hx.frozens _ _ (by first | (simp; done) | (simp; omega))]); (first | (simp [go_sem]; done) | (simp [go_sem, World.cell?_alloc_past]; done) | (simp [go_sem, World.frozen?]; done))))
  unfold lowV
  cases hr : roomB l
  all_goals
    go_enter Try.func9, Try.ntmps9
    go_wp2_with (first | (go_at_call 29; refine (RoomOk_any _ _ _ _ (hp.ext (by (repeat (first | exact Ext.refl _ | assumption | apply Ext.alloc | apply Ext.drew | apply Ext.drewN | (refine Ext.trans ?_ (by assumption)))))) hn).mono ?_; rintro e w1 ⟨rfl, hb⟩; have hcc := HB.out w1 (by (repeat (first | exact Ext.refl _ | assumption | apply Ext.alloc | apply Ext.drew | apply Ext.drewN | (refine Ext.trans ?_ (by assumption)))))) | (go_at_call 31; refine (lowest_any _ _ _ _ (hp.ext (by (repeat (first | exact Ext.refl _ | assumption | apply Ext.alloc | apply Ext.drew | apply Ext.drewN | (refine Ext.trans ?_ (by assumption)))))) hn).mono ?_; rintro e w1 ⟨rfl, hb⟩; have hcc := HB.out w1 (by (repeat (first | exact Ext.refl _ | assumption | apply Ext.alloc | apply Ext.drew | apply Ext.drewN | (refine Ext.trans ?_ (by assumption)))))))
    go_ret
    exact ⟨rfl, by (repeat (first | exact Ext.refl _ | assumption | apply Ext.alloc | apply Ext.drew | apply Ext.drewN | (refine Ext.trans ?_ (by assumption))))⟩

end Go.Proofs.Ytanagdlikoinaaa
