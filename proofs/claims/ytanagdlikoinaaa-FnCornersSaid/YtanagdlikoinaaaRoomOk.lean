/-
  Contract: the program's RoomOk.
-/
import Derived.Test.YtanagdlikoinaaaRoom
namespace Go.Proofs.Ytanagdlikoinaaa
open Go.RowKit

theorem roomB_size {l : List (Int × Int)} (h : sizeB l = false) : roomB l = false := by simp [roomB, h]
theorem roomB_allok {l : List (Int × Int)} (h : allok l = false) : roomB l = false := by simp [roomB, h]
theorem sizeB_inB (l : List (Int × Int)) : inB (l.length : Int) 3 10 = sizeB l := by
  unfold inB sizeB
  congr 1 <;> (rw [Bool.eq_iff_iff]; simp only [decide_eq_true_eq]; omega)

set_option maxRecDepth 100000 in
set_option maxHeartbeats 8000000 in
theorem RoomOk_any (A : Option Addr) (l : List (Int × Int)) (c : Nat) (w : World) (hp : RPts w A l) (hn : l.length ≤ 1048576) :
    Calls Try.prog 29 #[.agg #[.slice A l.length c]] w fun e w' => e = .returned (.bool (roomB l)) ∧ Ext w w' := by
  have HB : Hid (∀ w', Ext (w.alloc (.cells #[.slice A l.length c] 26)) w' → w'.cell? ⟨w.heap.size, 0, none⟩ = some (.slice A l.length c)) := fun w' hx => by
    and_intros <;> (((first | rw [hx.cells _ _ (by first | (simp; done) | (simp; omega))] | rw [hx.frozens _ _ (by first | (simp; done) | (simp; omega))]); (first | (simp [go_sem]; done) | (simp [go_sem, World.cell?_alloc_past]; done) | (simp [go_sem, World.frozen?]; done))))
  have hin := sizeB_inB l
  cases hs : sizeB l
  · rw [roomB_size hs]
    rw [hs] at hin
    go_enter Try.func29, Try.ntmps29
    go_wp2_with (go_at_call 48; refine (between_any _ _ _ _).mono ?_; rintro e w1 ⟨rfl, rfl⟩)
    go_ret
    exact ⟨rfl, by (repeat (first | exact Ext.refl _ | assumption | apply Ext.alloc | apply Ext.drew | apply Ext.drewN | (refine Ext.trans ?_ (by assumption))))⟩
  rw [hs] at hin
  have hlen : 3 ≤ l.length ∧ l.length ≤ 10 := by unfold sizeB at hs; simpa using hs
  obtain ⟨hl3, hl10⟩ := hlen
  cases ha : allok l
  · rw [roomB_allok ha]
    go_enter Try.func29, Try.ntmps29
    go_wp2_with (first | (go_at_call 48; refine (between_any _ _ _ _).mono ?_; rintro e w1 ⟨rfl, rfl⟩) | (go_at_call 37; refine (pointsOk_any _ _ _ _ (hp.ext (by (repeat (first | exact Ext.refl _ | assumption | apply Ext.alloc | apply Ext.drew | apply Ext.drewN | (refine Ext.trans ?_ (by assumption)))))) hn).mono ?_; rintro e w1 ⟨rfl, hb⟩; have hcc := HB.out w1 (by (repeat (first | exact Ext.refl _ | assumption | apply Ext.alloc | apply Ext.drew | apply Ext.drewN | (refine Ext.trans ?_ (by assumption)))))))
    go_ret
    exact ⟨rfl, by (repeat (first | exact Ext.refl _ | assumption | apply Ext.alloc | apply Ext.drew | apply Ext.drewN | (refine Ext.trans ?_ (by assumption))))⟩
  have hfine : Fine l := ⟨ha, hl10⟩
  go_enter Try.func29, Try.ntmps29
  go_wp2_with (first | (go_at_call 48; refine (between_any _ _ _ _).mono ?_; rintro e w1 ⟨rfl, rfl⟩) | (go_at_call 37; refine (pointsOk_any _ _ _ _ (hp.ext (by (repeat (first | exact Ext.refl _ | assumption | apply Ext.alloc | apply Ext.drew | apply Ext.drewN | (refine Ext.trans ?_ (by assumption)))))) hn).mono ?_; rintro e w1 ⟨rfl, hb⟩; have hcc := HB.out w1 (by (repeat (first | exact Ext.refl _ | assumption | apply Ext.alloc | apply Ext.drew | apply Ext.drewN | (refine Ext.trans ?_ (by assumption)))))) | (go_at_call 33; refine (wallsOf_any _ _ _ _ (hp.ext (by (repeat (first | exact Ext.refl _ | assumption | apply Ext.alloc | apply Ext.drew | apply Ext.drewN | (refine Ext.trans ?_ (by assumption)))))) hn).mono ?_; rintro e w1 ⟨A', c', rfl, hr, hb⟩; have hcc := HB.out w1 (by (repeat (first | exact Ext.refl _ | assumption | apply Ext.alloc | apply Ext.drew | apply Ext.drewN | (refine Ext.trans ?_ (by assumption)))))))
  clear hcc
  go_loopw [25] (fun i wr => ∃ k : Nat, k ≤ l.length ∧ i = .int .i64 k ∧ Ext w1 wr ∧ Hid (∀ j, j < k → rowI l j = true)) (fun i _ => l.length - (intOf i).toNat)
  case atStart => exact ⟨0, Nat.zero_le _, rfl, Ext.refl _, fun j hj => absurd hj (by omega)⟩
  case round =>
    obtain ⟨k, hk, rfl, hbl, HR⟩ := hrel
    obtain ⟨wq, rfl⟩ : ∃ wq : World, wq = wr := ⟨_, rfl⟩
    have hx1 : Ext (w.alloc (.cells #[.slice A l.length c] 26)) wq := by (repeat (first | exact Ext.refl _ | assumption | apply Ext.alloc | apply Ext.drew | apply Ext.drewN | (refine Ext.trans ?_ (by assumption))))
    have hcb := HB.out wq hx1
    have hszr : w.heap.size < wq.heap.size := by have := hx1.size; simp at this; omega
    by_cases hlt : k < l.length
    · have hne : l ≠ [] := fun e => by rw [e] at hlt; simp at hlt
      obtain ⟨g, rfl, hg, c1, c2, c3, c4⟩ := (hr.ext hbl) k hlt
      have hm2 : (k + 2) % l.length < l.length := Nat.mod_lt _ (by omega)
      obtain ⟨b, off, rfl, hz1, hx2, hy2⟩ := (hp.ext (by (repeat (first | exact Ext.refl _ | assumption | apply Ext.alloc | apply Ext.drew | apply Ext.drewN | (refine Ext.trans ?_ (by assumption)))) : Ext w wq)).at_ hm2
      obtain ⟨q1, q2, q3, q4, q5⟩ := idx_facts ((k : Int) + 2) (k + 2) l.length (by omega) (by omega) (by omega)
      have hz2 : b < (wq.alloc (.cells #[.int .i64 (gx l k), .int .i64 (gy l k), .int .i64 (gx l (nx l k)), .int .i64 (gy l (nx l k))] 51)).heap.size := by simp; omega
      have hz3 : w.heap.size < (wq.alloc (.cells #[.int .i64 (gx l k), .int .i64 (gy l k), .int .i64 (gx l (nx l k)), .int .i64 (gy l (nx l k))] 51)).heap.size := by simp; omega
      by_cases ht : tn l k = 0
      · have HROW := hide (roomB_row hlt (rowI_turn ht))
        unfold tn at ht
        go_wp2
        refine wp_flow (by kernel_rfl) (by kernel_rfl) (fun u => ⟨#[_, _, _, _, _, _, _, _, _, _, _, _, _, _, _, _, _, _, _, _, _, _, _, _, _, _, _, _, _, _, u 0, u 1, u 2, u 3, u 4, u 5, u 6, u 7, u 8, u 9, u 10, u 11, u 12, u 13, _, _, _, _, _, _, _, _, _, _, _, _, _, _, _, _, _, _, _, _, _, _, _, _, _, _], _⟩) (fun i => List.getD [_, _, _, _, _, _, _, _, _, _, _, _, _, _] i undef) [is ?v1_0, is ?v1_1, is ?v1_2, is ?v1_3, is ?v1_4, is ?v1_5, is ?v1_6, is ?v1_7, is ?v1_8, is ?v1_9, is ?v1_10, is ?v1_11, is ?v1_12, is ?v1_13] (fun w' => w'.cell? ⟨wq.heap.size, 0, none⟩ = some (.int .i64 (gx l k)) ∧ w'.cell? ⟨wq.heap.size, 1, none⟩ = some (.int .i64 (gy l k)) ∧ w'.cell? ⟨wq.heap.size, 2, none⟩ = some (.int .i64 (gx l (nx l k))) ∧ w'.cell? ⟨wq.heap.size, 3, none⟩ = some (.int .i64 (gy l (nx l k))) ∧ w'.cell? ⟨w.heap.size, 0, none⟩ = some (.slice (some ⟨b, off, none⟩) l.length c) ∧ w'.cell? ⟨b, off + (k + 2) % l.length * 2, none⟩ = some (.int .i64 (gx l ((k + 2) % l.length))) ∧ w'.cell? ⟨b, off + (k + 2) % l.length * 2 + 1, none⟩ = some (.int .i64 (gy l ((k + 2) % l.length)))) _ rfl ?hC1 ?hs1 ?hV1 ?fin1
        case hC1 => (intro w' hx; and_intros <;> (first | (refine (Eq.trans (hx.cells _ _ ?_) ?_) <;> first | assumption | omega | (simp; done) | (simp; omega) | (simp [go_sem, World.cell?_alloc_past, *]; done)) | (have hz := hx.size; first | omega | (simp at hz; omega))))
        case hs1 =>
          repeat' (first
            | exact FSteps.nil
            | refine FSteps.cons ?_ ?_
            | (refine FStep.off_ _ _ _ rfl rfl ?_ (fun _ => rfl) ?_; (focus (intro u w hd; simp [vOf, is, Region.binds] at hd; simp [hd])); (intro w'; exact rfl); done)
            | ((first
                | refine FStep.plain rfl ?_
                | (refine FStep.on_ _ _ _ rfl rfl ?_ ?_; (focus (intro u w hd; simp [vOf, is, Region.binds] at hd; simp [hd]))))
               intro u w hW hC hd K hK
               (try simp [vOf, is, Region.binds] at hd)
               simp only [upd, Nat.reduceEqDiff, if_true, if_false] at hK
               (try simp only [hd] at hK)
               go_simp
               (first
                 | (refine hK _ _ ?_ ?_; (first | exact rfl); (repeat (first | exact Ext.refl _ | assumption | apply Ext.alloc | apply Ext.drew | apply Ext.drewN | (refine Ext.trans ?_ (by assumption)))))
                 | (go_at_call 49; refine (turn_any _ _ _ _ _ _ _).mono ?_; rintro e w1 ⟨rfl, hb⟩; (try go_simp); refine hK _ _ ?_ ?_; (first | exact rfl); (repeat (first | exact Ext.refl _ | assumption | apply Ext.alloc | apply Ext.drew | apply Ext.drewN | (refine Ext.trans ?_ (by assumption))))))))
        case hV1 => (simp only [List.forall_mem_cons]; simp [stable_is])
        case fin1 =>
          intro u w2 hW2 hC2 hd
          simp only [AllV, is] at hd
          simp only [hd]
          clear hd
          go_wp2
          go_ret
          exact ⟨by rw [HROW.out]; rfl, by (repeat (first | exact Ext.refl _ | assumption | apply Ext.alloc | apply Ext.drew | apply Ext.drewN | (refine Ext.trans ?_ (by assumption))))⟩
      · have HT := hide ht
        unfold tn at ht
        have ht2 : (turnW (gx l k) (gy l k) (gx l (nx l k)) (gy l (nx l k)) (gx l ((k + 2) % l.length)) (gy l ((k + 2) % l.length)) == 0) = false := by simpa using ht
        go_wp2
        refine wp_flow (by kernel_rfl) (by kernel_rfl) (fun u => ⟨#[_, _, _, _, _, _, _, _, _, _, _, _, _, _, _, _, _, _, _, _, _, _, _, _, _, _, _, _, _, _, u 0, u 1, u 2, u 3, u 4, u 5, u 6, u 7, u 8, u 9, u 10, u 11, u 12, u 13, _, _, _, _, _, _, _, _, _, _, _, _, _, _, _, _, _, _, _, _, _, _, _, _, _, _], _⟩) (fun i => List.getD [_, _, _, _, _, _, _, _, _, _, _, _, _, _] i undef) [is ?v2_0, is ?v2_1, is ?v2_2, is ?v2_3, is ?v2_4, is ?v2_5, is ?v2_6, is ?v2_7, is ?v2_8, is ?v2_9, is ?v2_10, is ?v2_11, is ?v2_12, is ?v2_13] (fun w' => w'.cell? ⟨wq.heap.size, 0, none⟩ = some (.int .i64 (gx l k)) ∧ w'.cell? ⟨wq.heap.size, 1, none⟩ = some (.int .i64 (gy l k)) ∧ w'.cell? ⟨wq.heap.size, 2, none⟩ = some (.int .i64 (gx l (nx l k))) ∧ w'.cell? ⟨wq.heap.size, 3, none⟩ = some (.int .i64 (gy l (nx l k))) ∧ w'.cell? ⟨w.heap.size, 0, none⟩ = some (.slice (some ⟨b, off, none⟩) l.length c) ∧ w'.cell? ⟨b, off + (k + 2) % l.length * 2, none⟩ = some (.int .i64 (gx l ((k + 2) % l.length))) ∧ w'.cell? ⟨b, off + (k + 2) % l.length * 2 + 1, none⟩ = some (.int .i64 (gy l ((k + 2) % l.length)))) _ rfl ?hC2 ?hs2 ?hV2 ?fin2
        case hC2 => (intro w' hx; and_intros <;> (first | (refine (Eq.trans (hx.cells _ _ ?_) ?_) <;> first | assumption | omega | (simp; done) | (simp; omega) | (simp [go_sem, World.cell?_alloc_past, *]; done)) | (have hz := hx.size; first | omega | (simp at hz; omega))))
        case hs2 =>
          repeat' (first
            | exact FSteps.nil
            | refine FSteps.cons ?_ ?_
            | (refine FStep.off_ _ _ _ rfl rfl ?_ (fun _ => rfl) ?_; (focus (intro u w hd; simp [vOf, is, Region.binds] at hd; simp [hd])); (intro w'; exact rfl); done)
            | ((first
                | refine FStep.plain rfl ?_
                | (refine FStep.on_ _ _ _ rfl rfl ?_ ?_; (focus (intro u w hd; simp [vOf, is, Region.binds] at hd; simp [hd]))))
               intro u w hW hC hd K hK
               (try simp [vOf, is, Region.binds] at hd)
               simp only [upd, Nat.reduceEqDiff, if_true, if_false] at hK
               (try simp only [hd] at hK)
               go_simp
               (first
                 | (refine hK _ _ ?_ ?_; (first | exact rfl); (repeat (first | exact Ext.refl _ | assumption | apply Ext.alloc | apply Ext.drew | apply Ext.drewN | (refine Ext.trans ?_ (by assumption)))))
                 | (go_at_call 49; refine (turn_any _ _ _ _ _ _ _).mono ?_; rintro e w1 ⟨rfl, hb⟩; (try go_simp); refine hK _ _ ?_ ?_; (first | exact rfl); (repeat (first | exact Ext.refl _ | assumption | apply Ext.alloc | apply Ext.drew | apply Ext.drewN | (refine Ext.trans ?_ (by assumption))))))))
        case hV2 => (simp only [List.forall_mem_cons]; simp [stable_is])
        case fin2 =>
          intro u w2 hW2 hC2 hd
          simp only [AllV, is] at hd
          simp only [hd]
          clear hd
          have HW : Hid (∀ w', Ext w2 w' → wq.heap.size < w'.heap.size ∧ w'.cell? ⟨wq.heap.size, 0, none⟩ = some (.int .i64 (gx l k)) ∧ w'.cell? ⟨wq.heap.size, 1, none⟩ = some (.int .i64 (gy l k)) ∧ w'.cell? ⟨wq.heap.size, 2, none⟩ = some (.int .i64 (gx l (nx l k))) ∧ w'.cell? ⟨wq.heap.size, 3, none⟩ = some (.int .i64 (gy l (nx l k)))) := fun w' hx => by
            have hsz : wq.heap.size < w2.heap.size := by have := hW2.size; simp at this; omega
            exact ⟨Nat.lt_of_lt_of_le hsz hx.size, (hx.cells _ _ hsz).trans hC2.1, (hx.cells _ _ hsz).trans hC2.2.1, (hx.cells _ _ hsz).trans hC2.2.2.1, (hx.cells _ _ hsz).trans hC2.2.2.2.1⟩
          have hx0 : Ext w1 w2 := by (repeat (first | exact Ext.refl _ | assumption | apply Ext.alloc | apply Ext.drew | apply Ext.drewN | (refine Ext.trans ?_ (by assumption))))
          clear ht ht2 hx2 hy2 q1 q2 q3 q4 q5 hC2 c1 c2 c3 c4 hcb hz1 hz2 hz3
          go_wp2
          obtain ⟨wo, rfl⟩ : ∃ wo : World, wo = w2 := ⟨_, rfl⟩
          go_loopw [7] (fun q wi => ∃ m : Nat, k + 2 ≤ m ∧ m ≤ l.length + 2 ∧ q = .int .i64 m ∧ Ext wo wi ∧ Hid (∀ j, j < m → j < l.length → askI l k j = true → mt l k j = false)) (fun q _ => l.length - (intOf q).toNat)
          case atStart => exact ⟨k + 2, Nat.le_refl _, by omega, by go_num, Ext.refl _, fun j h1 _ h3 => by unfold askI at h3; simp at h3; omega⟩
          case round =>
            obtain ⟨m, hm1, hm2', rfl, hxi, HM⟩ := hrel
            by_cases hlm : m < l.length
            · obtain ⟨g', hg', hgs, c1, c2, c3, c4⟩ := ((hr.ext hx0).ext hxi) m hlm
              injection hg' with hg'
              injection hg' with hg' _ _
              subst hg'
              obtain ⟨hws, v1, v2, v3, v4⟩ := HW.out _ hxi
              obtain ⟨q1, q2, q3, q4, q5⟩ := idx_facts ((m : Int) + 1) (m + 1) l.length (by omega) (by omega) (by omega)
              by_cases ha : (m + 1) % l.length = k
              · have hq : ((m : Int) + 1) % (l.length : Int) = (k : Int) := by omega
                have hq1 : (((m : Int) + 1) % (l.length : Int) != (k : Int)) = false := by simp [hq]
                have HA := hide ha
                clear ha hq q3 q4 q5
                go_wp2
                refine wp_flow (by kernel_rfl) (by kernel_rfl) (fun u => ⟨#[_, _, _, _, _, _, _, _, _, _, _, _, _, _, _, _, _, _, _, _, _, _, _, _, _, _, _, _, _, _, _, _, _, _, _, _, _, _, _, _, _, _, _, _, _, _, _, _, _, _, _, u 0, u 1, u 2, u 3, u 4, u 5, u 6, u 7, u 8, u 9, u 10, u 11, u 12, u 13, _, _, _, _, _], _⟩) (fun i => List.getD [_, _, _, _, _, _, _, _, _, _, _, _, _, _] i undef) [is ?v3_0, is ?v3_1, is ?v3_2, is ?v3_3, is ?v3_4, is ?v3_5, is ?v3_6, is ?v3_7, is ?v3_8, is ?v3_9, is ?v3_10, is ?v3_11, is ?v3_12, is ?v3_13] (fun w' => w'.cell? ⟨wq.heap.size, 0, none⟩ = some (.int .i64 (gx l k)) ∧ w'.cell? ⟨wq.heap.size, 1, none⟩ = some (.int .i64 (gy l k)) ∧ w'.cell? ⟨wq.heap.size, 2, none⟩ = some (.int .i64 (gx l (nx l k))) ∧ w'.cell? ⟨wq.heap.size, 3, none⟩ = some (.int .i64 (gy l (nx l k))) ∧ w'.cell? ⟨g, m * 4, none⟩ = some (.int .i64 (gx l m)) ∧ w'.cell? ⟨g, m * 4 + 1, none⟩ = some (.int .i64 (gy l m)) ∧ w'.cell? ⟨g, m * 4 + 2, none⟩ = some (.int .i64 (gx l (nx l m))) ∧ w'.cell? ⟨g, m * 4 + 3, none⟩ = some (.int .i64 (gy l (nx l m)))) _ rfl ?hC3 ?hs3 ?hV3 ?fin3
                case hC3 => (intro w' hx; and_intros <;> (first | (refine (Eq.trans (hx.cells _ _ ?_) ?_) <;> first | assumption | omega | (simp; done) | (simp; omega) | (simp [go_sem, World.cell?_alloc_past, *]; done)) | (have hz := hx.size; first | omega | (simp at hz; omega))))
                case hs3 =>
                  repeat' (first
                    | exact FSteps.nil
                    | refine FSteps.cons ?_ ?_
                    | (refine FStep.off_ _ _ _ rfl rfl ?_ (fun _ => rfl) ?_; (focus (intro u w hd; simp [vOf, is, Region.binds] at hd; simp [hd])); (intro w'; exact rfl); done)
                    | ((first
                        | refine FStep.plain rfl ?_
                        | (refine FStep.on_ _ _ _ rfl rfl ?_ ?_; (focus (intro u w hd; simp [vOf, is, Region.binds] at hd; simp [hd]))))
                       intro u w hW hC hd K hK
                       (try simp [vOf, is, Region.binds] at hd)
                       simp only [upd, Nat.reduceEqDiff, if_true, if_false] at hK
                       (try simp only [hd] at hK)
                       go_simp
                       (first
                         | (refine hK _ _ ?_ ?_; (first | exact rfl); (repeat (first | exact Ext.refl _ | assumption | apply Ext.alloc | apply Ext.drew | apply Ext.drewN | (refine Ext.trans ?_ (by assumption)))))
                         | (go_at_call 50; refine (DoMeet_any _ _ _ _ _ _ _ _ _).mono ?_; rintro e w1 ⟨rfl, hb⟩; (try go_simp); refine hK _ _ ?_ ?_; (first | exact rfl); (repeat (first | exact Ext.refl _ | assumption | apply Ext.alloc | apply Ext.drew | apply Ext.drewN | (refine Ext.trans ?_ (by assumption))))))))
                case hV3 => (simp only [List.forall_mem_cons]; simp [stable_is])
                case fin3 =>
                  intro u w2 hW2 hC2 hd
                  simp only [AllV, is] at hd
                  simp only [hd]
                  clear hd
                  go_wp2
                  go_roundw
                  case rel =>
                    refine ⟨m + 1, by omega, by omega, by go_num, by (repeat (first | exact Ext.refl _ | assumption | apply Ext.alloc | apply Ext.drew | apply Ext.drewN | (refine Ext.trans ?_ (by assumption)))), fun j h1 h2 h3 => ?_⟩
                    by_cases e : j = m
                    · subst e
                      unfold askI at h3
                      simp [HA.out] at h3
                    · exact HM.out j (by omega) h2 h3
                  case measure => simp [intOf]; omega
              · have hq : ¬ ((m : Int) + 1) % (l.length : Int) = (k : Int) := by omega
                have hq1 : (((m : Int) + 1) % (l.length : Int) != (k : Int)) = true := by simp [hq]
                have hask : askI l k m = true := by unfold askI; simp [ha]; omega
                have HA := hide hask
                clear ha hq q3 q4 q5 hask
                cases hmt : mt l k m
                · have HMT := hide hmt
                  unfold mt at hmt
                  go_wp2
                  refine wp_flow (by kernel_rfl) (by kernel_rfl) (fun u => ⟨#[_, _, _, _, _, _, _, _, _, _, _, _, _, _, _, _, _, _, _, _, _, _, _, _, _, _, _, _, _, _, _, _, _, _, _, _, _, _, _, _, _, _, _, _, _, _, _, _, _, _, _, u 0, u 1, u 2, u 3, u 4, u 5, u 6, u 7, u 8, u 9, u 10, u 11, u 12, u 13, _, _, _, _, _], _⟩) (fun i => List.getD [_, _, _, _, _, _, _, _, _, _, _, _, _, _] i undef) [is ?v4_0, is ?v4_1, is ?v4_2, is ?v4_3, is ?v4_4, is ?v4_5, is ?v4_6, is ?v4_7, is ?v4_8, is ?v4_9, is ?v4_10, is ?v4_11, is ?v4_12, is ?v4_13] (fun w' => w'.cell? ⟨wq.heap.size, 0, none⟩ = some (.int .i64 (gx l k)) ∧ w'.cell? ⟨wq.heap.size, 1, none⟩ = some (.int .i64 (gy l k)) ∧ w'.cell? ⟨wq.heap.size, 2, none⟩ = some (.int .i64 (gx l (nx l k))) ∧ w'.cell? ⟨wq.heap.size, 3, none⟩ = some (.int .i64 (gy l (nx l k))) ∧ w'.cell? ⟨g, m * 4, none⟩ = some (.int .i64 (gx l m)) ∧ w'.cell? ⟨g, m * 4 + 1, none⟩ = some (.int .i64 (gy l m)) ∧ w'.cell? ⟨g, m * 4 + 2, none⟩ = some (.int .i64 (gx l (nx l m))) ∧ w'.cell? ⟨g, m * 4 + 3, none⟩ = some (.int .i64 (gy l (nx l m)))) _ rfl ?hC4 ?hs4 ?hV4 ?fin4
                  case hC4 => (intro w' hx; and_intros <;> (first | (refine (Eq.trans (hx.cells _ _ ?_) ?_) <;> first | assumption | omega | (simp; done) | (simp; omega) | (simp [go_sem, World.cell?_alloc_past, *]; done)) | (have hz := hx.size; first | omega | (simp at hz; omega))))
                  case hs4 =>
                    repeat' (first
                      | exact FSteps.nil
                      | refine FSteps.cons ?_ ?_
                      | (refine FStep.off_ _ _ _ rfl rfl ?_ (fun _ => rfl) ?_; (focus (intro u w hd; simp [vOf, is, Region.binds] at hd; simp [hd])); (intro w'; exact rfl); done)
                      | ((first
                          | refine FStep.plain rfl ?_
                          | (refine FStep.on_ _ _ _ rfl rfl ?_ ?_; (focus (intro u w hd; simp [vOf, is, Region.binds] at hd; simp [hd]))))
                         intro u w hW hC hd K hK
                         (try simp [vOf, is, Region.binds] at hd)
                         simp only [upd, Nat.reduceEqDiff, if_true, if_false] at hK
                         (try simp only [hd] at hK)
                         go_simp
                         (first
                           | (refine hK _ _ ?_ ?_; (first | exact rfl); (repeat (first | exact Ext.refl _ | assumption | apply Ext.alloc | apply Ext.drew | apply Ext.drewN | (refine Ext.trans ?_ (by assumption)))))
                           | (go_at_call 50; refine (DoMeet_any _ _ _ _ _ _ _ _ _).mono ?_; rintro e w1 ⟨rfl, hb⟩; (try go_simp); refine hK _ _ ?_ ?_; (first | exact rfl); (repeat (first | exact Ext.refl _ | assumption | apply Ext.alloc | apply Ext.drew | apply Ext.drewN | (refine Ext.trans ?_ (by assumption))))))))
                  case hV4 => (simp only [List.forall_mem_cons]; simp [stable_is])
                  case fin4 =>
                    intro u w2 hW2 hC2 hd
                    simp only [AllV, is] at hd
                    simp only [hd]
                    clear hd
                    clear hmt
                    go_wp2
                    go_roundw
                    case rel =>
                      refine ⟨m + 1, by omega, by omega, by go_num, by (repeat (first | exact Ext.refl _ | assumption | apply Ext.alloc | apply Ext.drew | apply Ext.drewN | (refine Ext.trans ?_ (by assumption)))), fun j h1 h2 h3 => ?_⟩
                      by_cases e : j = m
                      · subst e; exact HMT.out
                      · exact HM.out j (by omega) h2 h3
                    case measure => simp [intOf]; omega
                · have HROW := hide (roomB_row hlt (rowI_meet hlm HA.out hmt))
                  unfold mt at hmt
                  go_wp2
                  refine wp_flow (by kernel_rfl) (by kernel_rfl) (fun u => ⟨#[_, _, _, _, _, _, _, _, _, _, _, _, _, _, _, _, _, _, _, _, _, _, _, _, _, _, _, _, _, _, _, _, _, _, _, _, _, _, _, _, _, _, _, _, _, _, _, _, _, _, _, u 0, u 1, u 2, u 3, u 4, u 5, u 6, u 7, u 8, u 9, u 10, u 11, u 12, u 13, _, _, _, _, _], _⟩) (fun i => List.getD [_, _, _, _, _, _, _, _, _, _, _, _, _, _] i undef) [is ?v5_0, is ?v5_1, is ?v5_2, is ?v5_3, is ?v5_4, is ?v5_5, is ?v5_6, is ?v5_7, is ?v5_8, is ?v5_9, is ?v5_10, is ?v5_11, is ?v5_12, is ?v5_13] (fun w' => w'.cell? ⟨wq.heap.size, 0, none⟩ = some (.int .i64 (gx l k)) ∧ w'.cell? ⟨wq.heap.size, 1, none⟩ = some (.int .i64 (gy l k)) ∧ w'.cell? ⟨wq.heap.size, 2, none⟩ = some (.int .i64 (gx l (nx l k))) ∧ w'.cell? ⟨wq.heap.size, 3, none⟩ = some (.int .i64 (gy l (nx l k))) ∧ w'.cell? ⟨g, m * 4, none⟩ = some (.int .i64 (gx l m)) ∧ w'.cell? ⟨g, m * 4 + 1, none⟩ = some (.int .i64 (gy l m)) ∧ w'.cell? ⟨g, m * 4 + 2, none⟩ = some (.int .i64 (gx l (nx l m))) ∧ w'.cell? ⟨g, m * 4 + 3, none⟩ = some (.int .i64 (gy l (nx l m)))) _ rfl ?hC5 ?hs5 ?hV5 ?fin5
                  case hC5 => (intro w' hx; and_intros <;> (first | (refine (Eq.trans (hx.cells _ _ ?_) ?_) <;> first | assumption | omega | (simp; done) | (simp; omega) | (simp [go_sem, World.cell?_alloc_past, *]; done)) | (have hz := hx.size; first | omega | (simp at hz; omega))))
                  case hs5 =>
                    repeat' (first
                      | exact FSteps.nil
                      | refine FSteps.cons ?_ ?_
                      | (refine FStep.off_ _ _ _ rfl rfl ?_ (fun _ => rfl) ?_; (focus (intro u w hd; simp [vOf, is, Region.binds] at hd; simp [hd])); (intro w'; exact rfl); done)
                      | ((first
                          | refine FStep.plain rfl ?_
                          | (refine FStep.on_ _ _ _ rfl rfl ?_ ?_; (focus (intro u w hd; simp [vOf, is, Region.binds] at hd; simp [hd]))))
                         intro u w hW hC hd K hK
                         (try simp [vOf, is, Region.binds] at hd)
                         simp only [upd, Nat.reduceEqDiff, if_true, if_false] at hK
                         (try simp only [hd] at hK)
                         go_simp
                         (first
                           | (refine hK _ _ ?_ ?_; (first | exact rfl); (repeat (first | exact Ext.refl _ | assumption | apply Ext.alloc | apply Ext.drew | apply Ext.drewN | (refine Ext.trans ?_ (by assumption)))))
                           | (go_at_call 50; refine (DoMeet_any _ _ _ _ _ _ _ _ _).mono ?_; rintro e w1 ⟨rfl, hb⟩; (try go_simp); refine hK _ _ ?_ ?_; (first | exact rfl); (repeat (first | exact Ext.refl _ | assumption | apply Ext.alloc | apply Ext.drew | apply Ext.drewN | (refine Ext.trans ?_ (by assumption))))))))
                  case hV5 => (simp only [List.forall_mem_cons]; simp [stable_is])
                  case fin5 =>
                    intro u w2 hW2 hC2 hd
                    simp only [AllV, is] at hd
                    simp only [hd]
                    clear hd
                    go_wp2
                    go_ret
                    exact ⟨by rw [HROW.out]; rfl, by (repeat (first | exact Ext.refl _ | assumption | apply Ext.alloc | apply Ext.drew | apply Ext.drewN | (refine Ext.trans ?_ (by assumption))))⟩
            · have HROW := hide (rowI_all HT.out (fun j h1 h2 => HM.out j (by omega) h1 h2))
              go_wp2
              go_roundw
              case rel =>
                refine ⟨k + 1, by omega, by go_num, by (repeat (first | exact Ext.refl _ | assumption | apply Ext.alloc | apply Ext.drew | apply Ext.drewN | (refine Ext.trans ?_ (by assumption)))), fun j hj => ?_⟩
                by_cases e : j = k
                · subst e; exact HROW.out
                · exact HR.out j (by omega)
              case measure => simp [intOf]; omega
    · have HEND := hide (roomB_end hs ha (fun i hi => HR.out i (by omega)))
      go_wp2_with (go_at_call 36; refine (area_any _ _ _ _ (hp.ext (by (repeat (first | exact Ext.refl _ | assumption | apply Ext.alloc | apply Ext.drew | apply Ext.drewN | (refine Ext.trans ?_ (by assumption)))))) hfine).mono ?_; rintro e w3 ⟨rfl, hb3⟩)
      go_ret
      exact ⟨by rw [HEND.out]; rfl, by (repeat (first | exact Ext.refl _ | assumption | apply Ext.alloc | apply Ext.drew | apply Ext.drewN | (refine Ext.trans ?_ (by assumption))))⟩

end Go.Proofs.Ytanagdlikoinaaa
