/-
  Contracts: LowestCorner.
-/
import Derived.Test.YtngapnmegembaaaCor
namespace Go.Proofs.Ytngapnmegembaaa
open Go.RowKit

/-- point k lies lower than point m -/
def lowB (l : List (Int × Int)) (k m : Nat) : Bool := decide (gy l k < gy l m) || ((gy l k == gy l m) && decide (gx l k < gx l m))
/-- the lowest of the first k points -/
def lowTo (l : List (Int × Int)) : Nat → Nat
  | 0 => 0
  | k + 1 => if lowB l k (lowTo l k) = true then k else lowTo l k
theorem lowTo_succ (l : List (Int × Int)) (k : Nat) : lowTo l (k + 1) = if lowB l k (lowTo l k) = true then k else lowTo l k := rfl
theorem lowTo_le (l : List (Int × Int)) : ∀ k, lowTo l k ≤ k
  | 0 => Nat.le_refl _
  | k + 1 => by
    rw [lowTo_succ]
    split
    · omega
    · have := lowTo_le l k; omega
theorem lowTo_lt (l : List (Int × Int)) (k : Nat) (h : 0 < k) : lowTo l k < k := by
  obtain ⟨j, rfl⟩ : ∃ j, k = j + 1 := ⟨k - 1, by omega⟩
  rw [lowTo_succ]
  split
  · omega
  · have := lowTo_le l j; omega
theorem lowB_self (l : List (Int × Int)) (k : Nat) : lowB l k k = false := by simp [lowB]
/-- LowestCorner, as both texts give it -/
def lowV (l : List (Int × Int)) : Int := if roomB l = true then (lowTo l l.length : Int) else -1

set_option maxRecDepth 100000 in
set_option maxHeartbeats 1600000 in
theorem lowest_any (A : Option Addr) (l : List (Int × Int)) (c : Nat) (w : World) (hp : RPts w A l) (hn : l.length ≤ 1048576) :
    Calls Try.prog 85 #[.slice A l.length c] w fun e w' => e = .returned (.int .i64 (lowTo l l.length)) ∧ Ext w w' := by
  go_enter Try.func85, Try.ntmps85
  go_wp2
  go_loopw [3, 8] (fun best i wr => ∃ k m : Nat, k ≤ l.length ∧ i = .int .i64 k ∧ best = .int .i64 m ∧ Hid (m = lowTo l k) ∧ m ≤ k ∧ Ext w wr) (fun _ i _ => l.length - (intOf i).toNat)
  case atStart => exact ⟨0, 0, Nat.zero_le _, rfl, rfl, rfl, Nat.le_refl _, Ext.refl w⟩
  case round =>
    obtain ⟨k, m, hk, rfl, rfl, HM, hmk, hbl⟩ := hrel
    by_cases hlt : k < l.length
    · have hml : m < l.length := by omega
      have hpr := hp.ext hbl
      obtain ⟨b, off, rfl⟩ := hpr.some_ (by omega)
      obtain ⟨hz, hx0, hy0⟩ := hpr.cell hlt
      obtain ⟨_, hx1, hy1⟩ := hpr.cell hml
      have i1 : (0 : Int) ≤ (m : Int) := by omega
      have i2 : (m : Int) < (l.length : Int) := by omega
      have hz2 : b < (wr.alloc (.cells #[.int .i64 (gx l k), .int .i64 (gy l k)] 38)).heap.size := by simp; omega
      cases e1 : decide (gy l k < gy l m)
      · cases e2 : (gy l k == gy l m)
        · have HS := hide (show lowB l k m = false by simp [lowB, e1, e2])
          go_wp2
          refine wp_flow (by kernel_rfl) (by kernel_rfl) (fun u => ⟨#[_, _, _, _, _, _, _, _, _, _, _, _, _, u 0, u 1, u 2, u 3, u 4, u 5, u 6, u 7, u 8, u 9, u 10, u 11, u 12, u 13, u 14, u 15, u 16, u 17, u 18, u 19, u 20, u 21, u 22, u 23, u 24, u 25, u 26, u 27, _, _, _], _⟩) (fun i => List.getD [_, _, _, _, _, _, _, _, _, _, _, _, _, _, _, _, _, _, _, _, _, _, _, _, _, _, _, _] i undef) [is ?v26_0, is ?v26_1, is ?v26_2, is ?v26_3, is ?v26_4, is ?v26_5, is ?v26_6, is ?v26_7, is ?v26_8, is ?v26_9, is ?v26_10, is ?v26_11, is ?v26_12, is ?v26_13, is ?v26_14, is ?v26_15, is ?v26_16, is ?v26_17, is ?v26_18, is ?v26_19, is ?v26_20, is ?v26_21, is ?v26_22, is ?v26_23, is ?v26_24, is ?v26_25, is ?v26_26, is ?v26_27] (fun w' => w'.cell? ⟨wr.heap.size, 0, none⟩ = some (.int .i64 (gx l k)) ∧ w'.cell? ⟨wr.heap.size, 1, none⟩ = some (.int .i64 (gy l k)) ∧ w'.cell? ⟨b, off + m * 2, none⟩ = some (.int .i64 (gx l (m))) ∧ w'.cell? ⟨b, off + m * 2 + 1, none⟩ = some (.int .i64 (gy l (m)))) _ rfl ?hC26 ?hs26 ?hV26 ?fin26
          case hC26 => (intro w' hx; and_intros <;> (first | (refine (Eq.trans (hx.cells _ _ ?_) ?_) <;> first | assumption | omega | (simp; done) | (simp; omega) | (simp [go_sem, World.cell?_alloc_past, *]; done)) | (have hz := hx.size; first | omega | (simp at hz; omega))))
          case hs26 =>
            repeat' (first
              | exact FSteps.nil
              | refine FSteps.cons ?_ ?_
              | (refine FStep.off_ _ _ _ rfl rfl ?_ (fun _ => rfl) ?_; (focus (intro u w hd; simp [vOf, is, Region.binds] at hd; simp [hd])); (intro w'; exact rfl); done)
              | ((first
                  | refine FStep.plain rfl ?_
                  | (refine FStep.on_ _ _ _ rfl rfl ?_ ?_; (focus (intro u w hd; simp [vOf, is, Region.binds] at hd; simp [hd]))))
                 intro u w hW hC hd K hK
                 (try simp [vOf, is, Region.binds] at hd)
                 simp only [upd, Nat.reduceEqDiff, if_true, if_false] at hK
                 (try simp only [hd] at hK)
                 go_simp
                 (first
                   | (refine hK _ _ ?_ ?_; (first | exact rfl); (repeat (first | exact Ext.refl _ | assumption | apply Ext.alloc | apply Ext.drew | apply Ext.drewN | (refine Ext.trans ?_ (by assumption))))))))
          case hV26 => (simp only [List.forall_mem_cons]; simp [stable_is])
          case fin26 =>
            intro u w2 hW2 hC2 hd
            simp only [AllV, is] at hd
            simp only [hd]
            clear hd
            clear hC2 hx0 hy0 hx1 hy1 e1 e2
            go_wp2
            go_roundw
            case rel => exact ⟨k + 1, m, by omega, by go_num, rfl, by unfold Hid; rw [lowTo_succ, ← HM.out, HS.out]; rfl, by omega, by (repeat (first | exact Ext.refl _ | assumption | apply Ext.alloc | apply Ext.drew | apply Ext.drewN | (refine Ext.trans ?_ (by assumption))))⟩
            case measure => simp [intOf]; omega
        · cases e3 : decide (gx l k < gx l m)
          · have HS := hide (show lowB l k m = false by simp [lowB, e1, e2, e3])
            go_wp2
            refine wp_flow (by kernel_rfl) (by kernel_rfl) (fun u => ⟨#[_, _, _, _, _, _, _, _, _, _, _, _, _, u 0, u 1, u 2, u 3, u 4, u 5, u 6, u 7, u 8, u 9, u 10, u 11, u 12, u 13, u 14, u 15, u 16, u 17, u 18, u 19, u 20, u 21, u 22, u 23, u 24, u 25, u 26, u 27, _, _, _], _⟩) (fun i => List.getD [_, _, _, _, _, _, _, _, _, _, _, _, _, _, _, _, _, _, _, _, _, _, _, _, _, _, _, _] i undef) [is ?v27_0, is ?v27_1, is ?v27_2, is ?v27_3, is ?v27_4, is ?v27_5, is ?v27_6, is ?v27_7, is ?v27_8, is ?v27_9, is ?v27_10, is ?v27_11, is ?v27_12, is ?v27_13, is ?v27_14, is ?v27_15, is ?v27_16, is ?v27_17, is ?v27_18, is ?v27_19, is ?v27_20, is ?v27_21, is ?v27_22, is ?v27_23, is ?v27_24, is ?v27_25, is ?v27_26, is ?v27_27] (fun w' => w'.cell? ⟨wr.heap.size, 0, none⟩ = some (.int .i64 (gx l k)) ∧ w'.cell? ⟨wr.heap.size, 1, none⟩ = some (.int .i64 (gy l k)) ∧ w'.cell? ⟨b, off + m * 2, none⟩ = some (.int .i64 (gx l (m))) ∧ w'.cell? ⟨b, off + m * 2 + 1, none⟩ = some (.int .i64 (gy l (m)))) _ rfl ?hC27 ?hs27 ?hV27 ?fin27
            case hC27 => (intro w' hx; and_intros <;> (first | (refine (Eq.trans (hx.cells _ _ ?_) ?_) <;> first | assumption | omega | (simp; done) | (simp; omega) | (simp [go_sem, World.cell?_alloc_past, *]; done)) | (have hz := hx.size; first | omega | (simp at hz; omega))))
            case hs27 =>
              repeat' (first
                | exact FSteps.nil
                | refine FSteps.cons ?_ ?_
                | (refine FStep.off_ _ _ _ rfl rfl ?_ (fun _ => rfl) ?_; (focus (intro u w hd; simp [vOf, is, Region.binds] at hd; simp [hd])); (intro w'; exact rfl); done)
                | ((first
                    | refine FStep.plain rfl ?_
                    | (refine FStep.on_ _ _ _ rfl rfl ?_ ?_; (focus (intro u w hd; simp [vOf, is, Region.binds] at hd; simp [hd]))))
                   intro u w hW hC hd K hK
                   (try simp [vOf, is, Region.binds] at hd)
                   simp only [upd, Nat.reduceEqDiff, if_true, if_false] at hK
                   (try simp only [hd] at hK)
                   go_simp
                   (first
                     | (refine hK _ _ ?_ ?_; (first | exact rfl); (repeat (first | exact Ext.refl _ | assumption | apply Ext.alloc | apply Ext.drew | apply Ext.drewN | (refine Ext.trans ?_ (by assumption))))))))
            case hV27 => (simp only [List.forall_mem_cons]; simp [stable_is])
            case fin27 =>
              intro u w2 hW2 hC2 hd
              simp only [AllV, is] at hd
              simp only [hd]
              clear hd
              clear hC2 hx0 hy0 hx1 hy1 e1 e2 e3
              go_wp2
              go_roundw
              case rel => exact ⟨k + 1, m, by omega, by go_num, rfl, by unfold Hid; rw [lowTo_succ, ← HM.out, HS.out]; rfl, by omega, by (repeat (first | exact Ext.refl _ | assumption | apply Ext.alloc | apply Ext.drew | apply Ext.drewN | (refine Ext.trans ?_ (by assumption))))⟩
              case measure => simp [intOf]; omega
          · have HS := hide (show lowB l k m = true by simp [lowB, e1, e2, e3])
            go_wp2
            refine wp_flow (by kernel_rfl) (by kernel_rfl) (fun u => ⟨#[_, _, _, _, _, _, _, _, _, _, _, _, _, u 0, u 1, u 2, u 3, u 4, u 5, u 6, u 7, u 8, u 9, u 10, u 11, u 12, u 13, u 14, u 15, u 16, u 17, u 18, u 19, u 20, u 21, u 22, u 23, u 24, u 25, u 26, u 27, _, _, _], _⟩) (fun i => List.getD [_, _, _, _, _, _, _, _, _, _, _, _, _, _, _, _, _, _, _, _, _, _, _, _, _, _, _, _] i undef) [is ?v28_0, is ?v28_1, is ?v28_2, is ?v28_3, is ?v28_4, is ?v28_5, is ?v28_6, is ?v28_7, is ?v28_8, is ?v28_9, is ?v28_10, is ?v28_11, is ?v28_12, is ?v28_13, is ?v28_14, is ?v28_15, is ?v28_16, is ?v28_17, is ?v28_18, is ?v28_19, is ?v28_20, is ?v28_21, is ?v28_22, is ?v28_23, is ?v28_24, is ?v28_25, is ?v28_26, is ?v28_27] (fun w' => w'.cell? ⟨wr.heap.size, 0, none⟩ = some (.int .i64 (gx l k)) ∧ w'.cell? ⟨wr.heap.size, 1, none⟩ = some (.int .i64 (gy l k)) ∧ w'.cell? ⟨b, off + m * 2, none⟩ = some (.int .i64 (gx l (m))) ∧ w'.cell? ⟨b, off + m * 2 + 1, none⟩ = some (.int .i64 (gy l (m)))) _ rfl ?hC28 ?hs28 ?hV28 ?fin28
            case hC28 => (intro w' hx; and_intros <;> (first | (refine (Eq.trans (hx.cells _ _ ?_) ?_) <;> first | assumption | omega | (simp; done) | (simp; omega) | (simp [go_sem, World.cell?_alloc_past, *]; done)) | (have hz := hx.size; first | omega | (simp at hz; omega))))
            case hs28 =>
              repeat' (first
                | exact FSteps.nil
                | refine FSteps.cons ?_ ?_
                | (refine FStep.off_ _ _ _ rfl rfl ?_ (fun _ => rfl) ?_; (focus (intro u w hd; simp [vOf, is, Region.binds] at hd; simp [hd])); (intro w'; exact rfl); done)
                | ((first
                    | refine FStep.plain rfl ?_
                    | (refine FStep.on_ _ _ _ rfl rfl ?_ ?_; (focus (intro u w hd; simp [vOf, is, Region.binds] at hd; simp [hd]))))
                   intro u w hW hC hd K hK
                   (try simp [vOf, is, Region.binds] at hd)
                   simp only [upd, Nat.reduceEqDiff, if_true, if_false] at hK
                   (try simp only [hd] at hK)
                   go_simp
                   (first
                     | (refine hK _ _ ?_ ?_; (first | exact rfl); (repeat (first | exact Ext.refl _ | assumption | apply Ext.alloc | apply Ext.drew | apply Ext.drewN | (refine Ext.trans ?_ (by assumption))))))))
            case hV28 => (simp only [List.forall_mem_cons]; simp [stable_is])
            case fin28 =>
              intro u w2 hW2 hC2 hd
              simp only [AllV, is] at hd
              simp only [hd]
              clear hd
              clear hC2 hx0 hy0 hx1 hy1 e1 e2 e3
              go_wp2
              go_roundw
              case rel => exact ⟨k + 1, k, by omega, by go_num, rfl, by unfold Hid; rw [lowTo_succ, ← HM.out, HS.out]; rfl, by omega, by (repeat (first | exact Ext.refl _ | assumption | apply Ext.alloc | apply Ext.drew | apply Ext.drewN | (refine Ext.trans ?_ (by assumption))))⟩
              case measure => simp [intOf]; omega
      · have HS := hide (show lowB l k m = true by simp [lowB, e1])
        go_wp2
        refine wp_flow (by kernel_rfl) (by kernel_rfl) (fun u => ⟨#[_, _, _, _, _, _, _, _, _, _, _, _, _, u 0, u 1, u 2, u 3, u 4, u 5, u 6, u 7, u 8, u 9, u 10, u 11, u 12, u 13, u 14, u 15, u 16, u 17, u 18, u 19, u 20, u 21, u 22, u 23, u 24, u 25, u 26, u 27, _, _, _], _⟩) (fun i => List.getD [_, _, _, _, _, _, _, _, _, _, _, _, _, _, _, _, _, _, _, _, _, _, _, _, _, _, _, _] i undef) [is ?v29_0, is ?v29_1, is ?v29_2, is ?v29_3, is ?v29_4, is ?v29_5, is ?v29_6, is ?v29_7, is ?v29_8, is ?v29_9, is ?v29_10, is ?v29_11, is ?v29_12, is ?v29_13, is ?v29_14, is ?v29_15, is ?v29_16, is ?v29_17, is ?v29_18, is ?v29_19, is ?v29_20, is ?v29_21, is ?v29_22, is ?v29_23, is ?v29_24, is ?v29_25, is ?v29_26, is ?v29_27] (fun w' => w'.cell? ⟨wr.heap.size, 0, none⟩ = some (.int .i64 (gx l k)) ∧ w'.cell? ⟨wr.heap.size, 1, none⟩ = some (.int .i64 (gy l k)) ∧ w'.cell? ⟨b, off + m * 2, none⟩ = some (.int .i64 (gx l (m))) ∧ w'.cell? ⟨b, off + m * 2 + 1, none⟩ = some (.int .i64 (gy l (m)))) _ rfl ?hC29 ?hs29 ?hV29 ?fin29
        case hC29 => (intro w' hx; and_intros <;> (first | (refine (Eq.trans (hx.cells _ _ ?_) ?_) <;> first | assumption | omega | (simp; done) | (simp; omega) | (simp [go_sem, World.cell?_alloc_past, *]; done)) | (have hz := hx.size; first | omega | (simp at hz; omega))))
        case hs29 =>
          repeat' (first
            | exact FSteps.nil
            | refine FSteps.cons ?_ ?_
            | (refine FStep.off_ _ _ _ rfl rfl ?_ (fun _ => rfl) ?_; (focus (intro u w hd; simp [vOf, is, Region.binds] at hd; simp [hd])); (intro w'; exact rfl); done)
            | ((first
                | refine FStep.plain rfl ?_
                | (refine FStep.on_ _ _ _ rfl rfl ?_ ?_; (focus (intro u w hd; simp [vOf, is, Region.binds] at hd; simp [hd]))))
               intro u w hW hC hd K hK
               (try simp [vOf, is, Region.binds] at hd)
               simp only [upd, Nat.reduceEqDiff, if_true, if_false] at hK
               (try simp only [hd] at hK)
               go_simp
               (first
                 | (refine hK _ _ ?_ ?_; (first | exact rfl); (repeat (first | exact Ext.refl _ | assumption | apply Ext.alloc | apply Ext.drew | apply Ext.drewN | (refine Ext.trans ?_ (by assumption))))))))
        case hV29 => (simp only [List.forall_mem_cons]; simp [stable_is])
        case fin29 =>
          intro u w2 hW2 hC2 hd
          simp only [AllV, is] at hd
          simp only [hd]
          clear hd
          clear hC2 hx0 hy0 hx1 hy1 e1
          go_wp2
          go_roundw
          case rel => exact ⟨k + 1, k, by omega, by go_num, rfl, by unfold Hid; rw [lowTo_succ, ← HM.out, HS.out]; rfl, by omega, by (repeat (first | exact Ext.refl _ | assumption | apply Ext.alloc | apply Ext.drew | apply Ext.drewN | (refine Ext.trans ?_ (by assumption))))⟩
          case measure => simp [intOf]; omega
    · have e : k = l.length := by omega
      have E := hide e
      clear e
      go_wp2
      go_ret
      exact ⟨ret_int (by rw [HM.out, E.out]), hbl⟩

theorem LowestCorner_any (A : Option Addr) (l : List (Int × Int)) (c : Nat) (w : World) (hp : RPts w A l) (hn : l.length ≤ 1048576) :
    Calls Try.prog 33 #[.agg #[.slice A l.length c]] w fun e w' => e = .returned (.int .i64 (lowV l)) ∧ Ext w w' := by
  have HB : Hid (∀ w', Ext (w.alloc (.cells #[.slice A l.length c] 29)) w' → w'.cell? ⟨w.heap.size, 0, none⟩ = some (.slice A l.length c) ∧ w.heap.size < w'.heap.size) := fun w' hx => by
    and_intros <;> (first | (have hz := hx.size; simp at hz; omega) | ((first | rw [hx.cells _ _ (by first | (simp; done) | (simp; omega))] | rw [hx.frozens _ _ (by first | (simp; done) | (simp; omega))]); (first | (simp [go_sem]; done) | (simp [go_sem, World.cell?_alloc_past]; done) | (simp [go_sem, World.frozen?]; done))))
  unfold lowV
  cases hr : roomB l
  all_goals
    go_enter Try.func33, Try.ntmps33
    go_wp2_with (first | (go_at_call 24; refine (RoomOk_any _ _ _ _ (hp.ext (by (repeat (first | exact Ext.refl _ | assumption | apply Ext.alloc | apply Ext.drew | apply Ext.drewN | (refine Ext.trans ?_ (by assumption)))))) hn).mono ?_; rintro e w1 ⟨rfl, hb⟩; have hcc := HB.out w1 (by (repeat (first | exact Ext.refl _ | assumption | apply Ext.alloc | apply Ext.drew | apply Ext.drewN | (refine Ext.trans ?_ (by assumption)))))) | (go_at_call 85; refine (lowest_any _ _ _ _ (hp.ext (by (repeat (first | exact Ext.refl _ | assumption | apply Ext.alloc | apply Ext.drew | apply Ext.drewN | (refine Ext.trans ?_ (by assumption)))))) hn).mono ?_; rintro e w1 ⟨rfl, hb⟩; have hcc := HB.out w1 (by (repeat (first | exact Ext.refl _ | assumption | apply Ext.alloc | apply Ext.drew | apply Ext.drewN | (refine Ext.trans ?_ (by assumption)))))))
    go_ret
    exact ⟨rfl, by (repeat (first | exact Ext.refl _ | assumption | apply Ext.alloc | apply Ext.drew | apply Ext.drewN | (refine Ext.trans ?_ (by assumption))))⟩

end Go.Proofs.Ytngapnmegembaaa
