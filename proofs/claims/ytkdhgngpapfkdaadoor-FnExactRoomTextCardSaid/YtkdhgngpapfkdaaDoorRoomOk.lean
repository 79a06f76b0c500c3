/-
  Contract: the program's RoomOk.
-/
import Derived.Test.YtkdhgngpapfkdaaDoorRoom
namespace Go.Proofs.YtkdhgngpapfkdaaDoor
open Go.RowKit

theorem roomB_size {l : List (Int × Int)} (h : sizeB l = false) : roomB l = false := by simp [roomB, h]
theorem roomB_allok {l : List (Int × Int)} (h : allok l = false) : roomB l = false := by simp [roomB, h]
theorem sizeB_inB (l : List (Int × Int)) : inB (l.length : Int) 3 10 = sizeB l := by
  unfold inB sizeB
  congr 1 <;> (rw [Bool.eq_iff_iff]; simp only [decide_eq_true_eq]; omega)

set_option maxRecDepth 100000 in
set_option maxHeartbeats 8000000 in
theorem RoomOk_any (A : Option Addr) (l : List (Int × Int)) (c : Nat) (w : World) (hp : RPts w A l) (hn : l.length ≤ 1048576) :
    Calls Tryd.prog 34 #[.agg #[.slice A l.length c]] w fun e w' => e = .returned (.bool (roomB l)) ∧ Ext w w' := by
  have HB : Hid (∀ w', Ext (w.alloc (.cells #[.slice A l.length c] 49)) w' → w'.cell? ⟨w.heap.size, 0, none⟩ = some (.slice A l.length c)) := fun w' hx => by
    and_intros <;> (((first | rw [hx.cells _ _ (by first | (simp; done) | (simp; omega))] | rw [hx.frozens _ _ (by first | (simp; done) | (simp; omega))]); (first | (simp [go_sem]; done) | (simp [go_sem, World.cell?_alloc_past]; done) | (simp [go_sem, World.frozen?]; done))))
  have hin := sizeB_inB l
  cases hs : sizeB l
  · rw [roomB_size hs]
    rw [hs] at hin
    go_enter Tryd.func34, Tryd.ntmps34
    go_wp2_with (go_at_call 57; refine (between_any _ _ _ _).mono ?_; rintro e w1 ⟨rfl, rfl⟩)
    go_ret
    exact ⟨rfl, by (repeat (first | exact Ext.refl _ | assumption | apply Ext.alloc | apply Ext.drew | apply Ext.drewN | (refine Ext.trans ?_ (by assumption))))⟩
  rw [hs] at hin
  have hlen : 3 ≤ l.length ∧ l.length ≤ 10 := by unfold sizeB at hs; simpa using hs
  obtain ⟨hl3, hl10⟩ := hlen
  cases ha : allok l
  · rw [roomB_allok ha]
    go_enter Tryd.func34, Tryd.ntmps34
    go_wp2_with (first | (go_at_call 57; refine (between_any _ _ _ _).mono ?_; rintro e w1 ⟨rfl, rfl⟩) | (go_at_call 58; refine (pointsOk_any _ _ _ _ (hp.ext (by (repeat (first | exact Ext.refl _ | assumption | apply Ext.alloc | apply Ext.drew | apply Ext.drewN | (refine Ext.trans ?_ (by assumption)))))) hn).mono ?_; rintro e w1 ⟨rfl, hb⟩; have hcc := HB.out w1 (by (repeat (first | exact Ext.refl _ | assumption | apply Ext.alloc | apply Ext.drew | apply Ext.drewN | (refine Ext.trans ?_ (by assumption)))))))
    go_ret
    exact ⟨rfl, by (repeat (first | exact Ext.refl _ | assumption | apply Ext.alloc | apply Ext.drew | apply Ext.drewN | (refine Ext.trans ?_ (by assumption))))⟩
  have hfine : Fine l := ⟨ha, hl10⟩
  go_enter Tryd.func34, Tryd.ntmps34
  go_wp2_with (first | (go_at_call 57; refine (between_any _ _ _ _).mono ?_; rintro e w1 ⟨rfl, rfl⟩) | (go_at_call 58; refine (pointsOk_any _ _ _ _ (hp.ext (by (repeat (first | exact Ext.refl _ | assumption | apply Ext.alloc | apply Ext.drew | apply Ext.drewN | (refine Ext.trans ?_ (by assumption)))))) hn).mono ?_; rintro e w1 ⟨rfl, hb⟩; have hcc := HB.out w1 (by (repeat (first | exact Ext.refl _ | assumption | apply Ext.alloc | apply Ext.drew | apply Ext.drewN | (refine Ext.trans ?_ (by assumption)))))) | (go_at_call 56; refine (wallsOf_any _ _ _ _ (hp.ext (by (repeat (first | exact Ext.refl _ | assumption | apply Ext.alloc | apply Ext.drew | apply Ext.drewN | (refine Ext.trans ?_ (by assumption)))))) hn).mono ?_; rintro e w1 ⟨A', c', rfl, hr, hb⟩; have hcc := HB.out w1 (by (repeat (first | exact Ext.refl _ | assumption | apply Ext.alloc | apply Ext.drew | apply Ext.drewN | (refine Ext.trans ?_ (by assumption)))))))
  clear hcc
  go_loopw [25] (fun i wr => ∃ k : Nat, k ≤ l.length ∧ i = .int .i64 k ∧ Ext w1 wr ∧ Hid (∀ j, j < k → rowI l j = true)) (fun i _ => l.length - (intOf i).toNat)
  case atStart => exact ⟨0, Nat.zero_le _, rfl, Ext.refl _, fun j hj => absurd hj (by omega)⟩
  case round =>
    obtain ⟨k, hk, rfl, hbl, HR⟩ := hrel
    obtain ⟨wq, rfl⟩ : ∃ wq : World, wq = wr := ⟨_, rfl⟩
    have hx1 : Ext (w.alloc (.cells #[.slice A l.length c] 49)) wq := by (repeat (first | exact Ext.refl _ | assumption | apply Ext.alloc | apply Ext.drew | apply Ext.drewN | (refine Ext.trans ?_ (by assumption))))
    have hcb := HB.out wq hx1
    have hszr : w.heap.size < wq.heap.size := by have := hx1.size; simp at this; omega
    by_cases hlt : k < l.length
    · have hne : l ≠ [] := fun e => by rw [e] at hlt; simp at hlt
      obtain ⟨g, rfl, hg, c1, c2, c3, c4⟩ := (hr.ext hbl) k hlt
      have hm2 : (k + 2) % l.length < l.length := Nat.mod_lt _ (by omega)
      obtain ⟨b, off, rfl, hz1, hx2, hy2⟩ := (hp.ext (by (repeat (first | exact Ext.refl _ | assumption | apply Ext.alloc | apply Ext.drew | apply Ext.drewN | (refine Ext.trans ?_ (by assumption)))) : Ext w wq)).at_ hm2
      obtain ⟨q1, q2, q3, q4, q5⟩ := idx_facts ((k : Int) + 2) (k + 2) l.length (by omega) (by omega) (by omega)
      have hz2 : b < (wq.alloc (.cells #[.int .i64 (gx l k), .int .i64 (gy l k), .int .i64 (gx l (nx l k)), .int .i64 (gy l (nx l k))] 57)).heap.size := by simp; omega
      have hz3 : w.heap.size < (wq.alloc (.cells #[.int .i64 (gx l k), .int .i64 (gy l k), .int .i64 (gx l (nx l k)), .int .i64 (gy l (nx l k))] 57)).heap.size := by simp; omega
      by_cases ht : tn l k = 0
      · have HROW := hide (roomB_row hlt (rowI_turn ht))
        unfold tn at ht
        go_wp2
        refine wp_flow (by kernel_rfl) (by kernel_rfl) (fun u => ⟨#[_, _, _, _, _, _, _, _, _, _, _, _, _, _, _, _, _, _, _, _, _, _, _, _, _, _, _, _, _, _, u 0, u 1, u 2, u 3, u 4, u 5, u 6, u 7, u 8, u 9, u 10, u 11, u 12, u 13, _, _, _, _, _, _, _, _, _, _, _, _, _, _, _, _, _, _, _, _, _, _, _, _, _, _], _⟩) (fun i => List.getD [_, _, _, _, _, _, _, _, _, _, _, _, _, _] i undef) [is ?v18_0, is ?v18_1, is ?v18_2, is ?v18_3, is ?v18_4, is ?v18_5, is ?v18_6, is ?v18_7, is ?v18_8, is ?v18_9, is ?v18_10, is ?v18_11, is ?v18_12, is ?v18_13] (fun w' => w'.cell? ⟨wq.heap.size, 0, none⟩ = some (.int .i64 (gx l k)) ∧ w'.cell? ⟨wq.heap.size, 1, none⟩ = some (.int .i64 (gy l k)) ∧ w'.cell? ⟨wq.heap.size, 2, none⟩ = some (.int .i64 (gx l (nx l k))) ∧ w'.cell? ⟨wq.heap.size, 3, none⟩ = some (.int .i64 (gy l (nx l k))) ∧ w'.cell? ⟨w.heap.size, 0, none⟩ = some (.slice (some ⟨b, off, none⟩) l.length c) ∧ w'.cell? ⟨b, off + (k + 2) % l.length * 2, none⟩ = some (.int .i64 (gx l ((k + 2) % l.length))) ∧ w'.cell? ⟨b, off + (k + 2) % l.length * 2 + 1, none⟩ = some (.int .i64 (gy l ((k + 2) % l.length)))) _ rfl ?hC18 ?hs18 ?hV18 ?fin18
        case hC18 => (intro w' hx; and_intros <;> (first | (refine (Eq.trans (hx.cells _ _ ?_) ?_) <;> first | assumption | omega | (simp; done) | (simp; omega) | (simp [go_sem, World.cell?_alloc_past, *]; done)) | (have hz := hx.size; first | omega | (simp at hz; omega))))
        case hs18 =>
          repeat' (first
            | exact FSteps.nil
            | refine FSteps.cons ?_ ?_
            | (refine FStep.off_ _ _ _ rfl rfl ?_ (fun _ => rfl) ?_; (focus (intro u w hd; simp [vOf, is, Region.binds] at hd; simp [hd])); (intro w'; exact rfl); done)
            | ((first
                | refine FStep.plain rfl ?_
                | (refine FStep.on_ _ _ _ rfl rfl ?_ ?_; (focus (intro u w hd; simp [vOf, is, Region.binds] at hd; simp [hd]))))
               intro u w hW hC hd K hK
               (try simp [vOf, is, Region.binds] at hd)
               simp only [upd, Nat.reduceEqDiff, if_true, if_false] at hK
               (try simp only [hd] at hK)
               go_simp
               (first
                 | (refine hK _ _ ?_ ?_; (first | exact rfl); (repeat (first | exact Ext.refl _ | assumption | apply Ext.alloc | apply Ext.drew | apply Ext.drewN | (refine Ext.trans ?_ (by assumption)))))
                 | (go_at_call 59; refine (turn_any _ _ _ _ _ _ _).mono ?_; rintro e w1 ⟨rfl, hb⟩; (try go_simp); refine hK _ _ ?_ ?_; (first | exact rfl); (repeat (first | exact Ext.refl _ | assumption | apply Ext.alloc | apply Ext.drew | apply Ext.drewN | (refine Ext.trans ?_ (by assumption))))))))
        case hV18 => (simp only [List.forall_mem_cons]; simp [stable_is])
        case fin18 =>
          intro u w2 hW2 hC2 hd
          simp only [AllV, is] at hd
          simp only [hd]
          clear hd
          go_wp2
          go_ret
          exact ⟨by rw [HROW.out]; rfl, by (repeat (first | exact Ext.refl _ | assumption | apply Ext.alloc | apply Ext.drew | apply Ext.drewN | (refine Ext.trans ?_ (by assumption))))⟩
      · have HT := hide ht
        unfold tn at ht
        have ht2 : (turnW (gx l k) (gy l k) (gx l (nx l k)) (gy l (nx l k)) (gx l ((k + 2) % l.length)) (gy l ((k + 2) % l.length)) == 0) = false := by simpa using ht
        go_wp2
        refine wp_flow (by kernel_rfl) (by kernel_rfl) (fun u => ⟨#[_, _, _, _, _, _, _, _, _, _, _, _, _, _, _, _, _, _, _, _, _, _, _, _, _, _, _, _, _, _, u 0, u 1, u 2, u 3, u 4, u 5, u 6, u 7, u 8, u 9, u 10, u 11, u 12, u 13, _, _, _, _, _, _, _, _, _, _, _, _, _, _, _, _, _, _, _, _, _, _, _, _, _, _], _⟩) (fun i => List.getD [_, _, _, _, _, _, _, _, _, _, _, _, _, _] i undef) [is ?v19_0, is ?v19_1, is ?v19_2, is ?v19_3, is ?v19_4, is ?v19_5, is ?v19_6, is ?v19_7, is ?v19_8, is ?v19_9, is ?v19_10, is ?v19_11, is ?v19_12, is ?v19_13] (fun w' => w'.cell? ⟨wq.heap.size, 0, none⟩ = some (.int .i64 (gx l k)) ∧ w'.cell? ⟨wq.heap.size, 1, none⟩ = some (.int .i64 (gy l k)) ∧ w'.cell? ⟨wq.heap.size, 2, none⟩ = some (.int .i64 (gx l (nx l k))) ∧ w'.cell? ⟨wq.heap.size, 3, none⟩ = some (.int .i64 (gy l (nx l k))) ∧ w'.cell? ⟨w.heap.size, 0, none⟩ = some (.slice (some ⟨b, off, none⟩) l.length c) ∧ w'.cell? ⟨b, off + (k + 2) % l.length * 2, none⟩ = some (.int .i64 (gx l ((k + 2) % l.length))) ∧ w'.cell? ⟨b, off + (k + 2) % l.length * 2 + 1, none⟩ = some (.int .i64 (gy l ((k + 2) % l.length)))) _ rfl ?hC19 ?hs19 ?hV19 ?fin19
        case hC19 => (intro w' hx; and_intros <;> (first | (refine (Eq.trans (hx.cells _ _ ?_) ?_) <;> first | assumption | omega | (simp; done) | (simp; omega) | (simp [go_sem, World.cell?_alloc_past, *]; done)) | (have hz := hx.size; first | omega | (simp at hz; omega))))
        case hs19 =>
          repeat' (first
            | exact FSteps.nil
            | refine FSteps.cons ?_ ?_
            | (refine FStep.off_ _ _ _ rfl rfl ?_ (fun _ => rfl) ?_; (focus (intro u w hd; simp [vOf, is, Region.binds] at hd; simp [hd])); (intro w'; exact rfl); done)
            | ((first
                | refine FStep.plain rfl ?_
                | (refine FStep.on_ _ _ _ rfl rfl ?_ ?_; (focus (intro u w hd; simp [vOf, is, Region.binds] at hd; simp [hd]))))
               intro u w hW hC hd K hK
               (try simp [vOf, is, Region.binds] at hd)
               simp only [upd, Nat.reduceEqDiff, if_true, if_false] at hK
               (try simp only [hd] at hK)
               go_simp
               (first
                 | (refine hK _ _ ?_ ?_; (first | exact rfl); (repeat (first | exact Ext.refl _ | assumption | apply Ext.alloc | apply Ext.drew | apply Ext.drewN | (refine Ext.trans ?_ (by assumption)))))
                 | (go_at_call 59; refine (turn_any _ _ _ _ _ _ _).mono ?_; rintro e w1 ⟨rfl, hb⟩; (try go_simp); refine hK _ _ ?_ ?_; (first | exact rfl); (repeat (first | exact Ext.refl _ | assumption | apply Ext.alloc | apply Ext.drew | apply Ext.drewN | (refine Ext.trans ?_ (by assumption))))))))
        case hV19 => (simp only [List.forall_mem_cons]; simp [stable_is])
        case fin19 =>
          intro u w2 hW2 hC2 hd
          simp only [AllV, is] at hd
          simp only [hd]
          clear hd
          have HW : Hid (∀ w', Ext w2 w' → wq.heap.size < w'.heap.size ∧ w'.cell? ⟨wq.heap.size, 0, none⟩ = some (.int .i64 (gx l k)) ∧ w'.cell? ⟨wq.heap.size, 1, none⟩ = some (.int .i64 (gy l k)) ∧ w'.cell? ⟨wq.heap.size, 2, none⟩ = some (.int .i64 (gx l (nx l k))) ∧ w'.cell? ⟨wq.heap.size, 3, none⟩ = some (.int .i64 (gy l (nx l k)))) := fun w' hx => by
            have hsz : wq.heap.size < w2.heap.size := by have := hW2.size; simp at this; omega
            exact ⟨Nat.lt_of_lt_of_le hsz hx.size, (hx.cells _ _ hsz).trans hC2.1, (hx.cells _ _ hsz).trans hC2.2.1, (hx.cells _ _ hsz).trans hC2.2.2.1, (hx.cells _ _ hsz).trans hC2.2.2.2.1⟩
          have hx0 : Ext w1 w2 := by (repeat (first | exact Ext.refl _ | assumption | apply Ext.alloc | apply Ext.drew | apply Ext.drewN | (refine Ext.trans ?_ (by assumption))))
          clear ht ht2 hx2 hy2 q1 q2 q3 q4 q5 hC2 c1 c2 c3 c4 hcb hz1 hz2 hz3
          go_wp2
          obtain ⟨wo, rfl⟩ : ∃ wo : World, wo = w2 := ⟨_, rfl⟩
          go_loopw [7] (fun q wi => ∃ m : Nat, k + 2 ≤ m ∧ m ≤ l.length + 2 ∧ q = .int .i64 m ∧ Ext wo wi ∧ Hid (∀ j, j < m → j < l.length → askI l k j = true → mt l k j = false)) (fun q _ => l.length - (intOf q).toNat)
          case atStart => exact ⟨k + 2, Nat.le_refl _, by omega, by go_num, Ext.refl _, fun j h1 _ h3 => by unfold askI at h3; simp at h3; omega⟩
          case round =>
            obtain ⟨m, hm1, hm2', rfl, hxi, HM⟩ := hrel
            by_cases hlm : m < l.length
            · obtain ⟨g', hg', hgs, c1, c2, c3, c4⟩ := ((hr.ext hx0).ext hxi) m hlm
              injection hg' with hg'
              injection hg' with hg' _ _
              subst hg'
              obtain ⟨hws, v1, v2, v3, v4⟩ := HW.out _ hxi
              obtain ⟨q1, q2, q3, q4, q5⟩ := idx_facts ((m : Int) + 1) (m + 1) l.length (by omega) (by omega) (by omega)
              by_cases ha : (m + 1) % l.length = k
              · have hq : ((m : Int) + 1) % (l.length : Int) = (k : Int) := by omega
                have hq1 : (((m : Int) + 1) % (l.length : Int) != (k : Int)) = false := by simp [hq]
                have HA := hide ha
                clear ha hq q3 q4 q5
                go_wp2
                refine wp_flow (by kernel_rfl) (by kernel_rfl) (fun u => ⟨#[_, _, _, _, _, _, _, _, _, _, _, _, _, _, _, _, _, _, _, _, _, _, _, _, _, _, _, _, _, _, _, _, _, _, _, _, _, _, _, _, _, _, _, _, _, _, _, _, _, _, _, u 0, u 1, u 2, u 3, u 4, u 5, u 6, u 7, u 8, u 9, u 10, u 11, u 12, u 13, _, _, _, _, _], _⟩) (fun i => List.getD [_, _, _, _, _, _, _, _, _, _, _, _, _, _] i undef) [is ?v20_0, is ?v20_1, is ?v20_2, is ?v20_3, is ?v20_4, is ?v20_5, is ?v20_6, is ?v20_7, is ?v20_8, is ?v20_9, is ?v20_10, is ?v20_11, is ?v20_12, is ?v20_13] (fun w' => w'.cell? ⟨wq.heap.size, 0, none⟩ = some (.int .i64 (gx l k)) ∧ w'.cell? ⟨wq.heap.size, 1, none⟩ = some (.int .i64 (gy l k)) ∧ w'.cell? ⟨wq.heap.size, 2, none⟩ = some (.int .i64 (gx l (nx l k))) ∧ w'.cell? ⟨wq.heap.size, 3, none⟩ = some (.int .i64 (gy l (nx l k))) ∧ w'.cell? ⟨g, m * 4, none⟩ = some (.int .i64 (gx l m)) ∧ w'.cell? ⟨g, m * 4 + 1, none⟩ = some (.int .i64 (gy l m)) ∧ w'.cell? ⟨g, m * 4 + 2, none⟩ = some (.int .i64 (gx l (nx l m))) ∧ w'.cell? ⟨g, m * 4 + 3, none⟩ = some (.int .i64 (gy l (nx l m)))) _ rfl ?hC20 ?hs20 ?hV20 ?fin20
                case hC20 => (intro w' hx; and_intros <;> (first | (refine (Eq.trans (hx.cells _ _ ?_) ?_) <;> first | assumption | omega | (simp; done) | (simp; omega) | (simp [go_sem, World.cell?_alloc_past, *]; done)) | (have hz := hx.size; first | omega | (simp at hz; omega))))
                case hs20 =>
                  repeat' (first
                    | exact FSteps.nil
                    | refine FSteps.cons ?_ ?_
                    | (refine FStep.off_ _ _ _ rfl rfl ?_ (fun _ => rfl) ?_; (focus (intro u w hd; simp [vOf, is, Region.binds] at hd; simp [hd])); (intro w'; exact rfl); done)
                    | ((first
                        | refine FStep.plain rfl ?_
                        | (refine FStep.on_ _ _ _ rfl rfl ?_ ?_; (focus (intro u w hd; simp [vOf, is, Region.binds] at hd; simp [hd]))))
                       intro u w hW hC hd K hK
                       (try simp [vOf, is, Region.binds] at hd)
                       simp only [upd, Nat.reduceEqDiff, if_true, if_false] at hK
                       (try simp only [hd] at hK)
                       go_simp
                       (first
                         | (refine hK _ _ ?_ ?_; (first | exact rfl); (repeat (first | exact Ext.refl _ | assumption | apply Ext.alloc | apply Ext.drew | apply Ext.drewN | (refine Ext.trans ?_ (by assumption)))))
                         | (go_at_call 60; refine (DoMeet_any _ _ _ _ _ _ _ _ _).mono ?_; rintro e w1 ⟨rfl, hb⟩; (try go_simp); refine hK _ _ ?_ ?_; (first | exact rfl); (repeat (first | exact Ext.refl _ | assumption | apply Ext.alloc | apply Ext.drew | apply Ext.drewN | (refine Ext.trans ?_ (by assumption))))))))
                case hV20 => (simp only [List.forall_mem_cons]; simp [stable_is])
                case fin20 =>
                  intro u w2 hW2 hC2 hd
                  simp only [AllV, is] at hd
                  simp only [hd]
                  clear hd
                  go_wp2
                  go_roundw
                  case rel =>
                    refine ⟨m + 1, by omega, by omega, by go_num, by (repeat (first | exact Ext.refl _ | assumption | apply Ext.alloc | apply Ext.drew | apply Ext.drewN | (refine Ext.trans ?_ (by assumption)))), fun j h1 h2 h3 => ?_⟩
                    by_cases e : j = m
                    · subst e
                      unfold askI at h3
                      simp [HA.out] at h3
                    · exact HM.out j (by omega) h2 h3
                  case measure => simp [intOf]; omega
              · have hq : ¬ ((m : Int) + 1) % (l.length : Int) = (k : Int) := by omega
                have hq1 : (((m : Int) + 1) % (l.length : Int) != (k : Int)) = true := by simp [hq]
                have hask : askI l k m = true := by unfold askI; simp [ha]; omega
                have HA := hide hask
                clear ha hq q3 q4 q5 hask
                cases hmt : mt l k m
                · have HMT := hide hmt
                  unfold mt at hmt
                  go_wp2
                  refine wp_flow (by kernel_rfl) (by kernel_rfl) (fun u => ⟨#[_, _, _, _, _, _, _, _, _, _, _, _, _, _, _, _, _, _, _, _, _, _, _, _, _, _, _, _, _, _, _, _, _, _, _, _, _, _, _, _, _, _, _, _, _, _, _, _, _, _, _, u 0, u 1, u 2, u 3, u 4, u 5, u 6, u 7, u 8, u 9, u 10, u 11, u 12, u 13, _, _, _, _, _], _⟩) (fun i => List.getD [_, _, _, _, _, _, _, _, _, _, _, _, _, _] i undef) [is ?v21_0, is ?v21_1, is ?v21_2, is ?v21_3, is ?v21_4, is ?v21_5, is ?v21_6, is ?v21_7, is ?v21_8, is ?v21_9, is ?v21_10, is ?v21_11, is ?v21_12, is ?v21_13] (fun w' => w'.cell? ⟨wq.heap.size, 0, none⟩ = some (.int .i64 (gx l k)) ∧ w'.cell? ⟨wq.heap.size, 1, none⟩ = some (.int .i64 (gy l k)) ∧ w'.cell? ⟨wq.heap.size, 2, none⟩ = some (.int .i64 (gx l (nx l k))) ∧ w'.cell? ⟨wq.heap.size, 3, none⟩ = some (.int .i64 (gy l (nx l k))) ∧ w'.cell? ⟨g, m * 4, none⟩ = some (.int .i64 (gx l m)) ∧ w'.cell? ⟨g, m * 4 + 1, none⟩ = some (.int .i64 (gy l m)) ∧ w'.cell? ⟨g, m * 4 + 2, none⟩ = some (.int .i64 (gx l (nx l m))) ∧ w'.cell? ⟨g, m * 4 + 3, none⟩ = some (.int .i64 (gy l (nx l m)))) _ rfl ?hC21 ?hs21 ?hV21 ?fin21
                  case hC21 => (intro w' hx; and_intros <;> (first | (refine (Eq.trans (hx.cells _ _ ?_) ?_) <;> first | assumption | omega | (simp; done) | (simp; omega) | (simp [go_sem, World.cell?_alloc_past, *]; done)) | (have hz := hx.size; first | omega | (simp at hz; omega))))
                  case hs21 =>
                    repeat' (first
                      | exact FSteps.nil
                      | refine FSteps.cons ?_ ?_
                      | (refine FStep.off_ _ _ _ rfl rfl ?_ (fun _ => rfl) ?_; (focus (intro u w hd; simp [vOf, is, Region.binds] at hd; simp [hd])); (intro w'; exact rfl); done)
                      | ((first
                          | refine FStep.plain rfl ?_
                          | (refine FStep.on_ _ _ _ rfl rfl ?_ ?_; (focus (intro u w hd; simp [vOf, is, Region.binds] at hd; simp [hd]))))
                         intro u w hW hC hd K hK
                         (try simp [vOf, is, Region.binds] at hd)
                         simp only [upd, Nat.reduceEqDiff, if_true, if_false] at hK
                         (try simp only [hd] at hK)
                         go_simp
                         (first
                           | (refine hK _ _ ?_ ?_; (first | exact rfl); (repeat (first | exact Ext.refl _ | assumption | apply Ext.alloc | apply Ext.drew | apply Ext.drewN | (refine Ext.trans ?_ (by assumption)))))
                           | (go_at_call 60; refine (DoMeet_any _ _ _ _ _ _ _ _ _).mono ?_; rintro e w1 ⟨rfl, hb⟩; (try go_simp); refine hK _ _ ?_ ?_; (first | exact rfl); (repeat (first | exact Ext.refl _ | assumption | apply Ext.alloc | apply Ext.drew | apply Ext.drewN | (refine Ext.trans ?_ (by assumption))))))))
                  case hV21 => (simp only [List.forall_mem_cons]; simp [stable_is])
                  case fin21 =>
                    intro u w2 hW2 hC2 hd
                    simp only [AllV, is] at hd
                    simp only [hd]
                    clear hd
                    clear hmt
                    go_wp2
                    go_roundw
                    case rel =>
                      refine ⟨m + 1, by omega, by omega, by go_num, by (repeat (first | exact Ext.refl _ | assumption | apply Ext.alloc | apply Ext.drew | apply Ext.drewN | (refine Ext.trans ?_ (by assumption)))), fun j h1 h2 h3 => ?_⟩
                      by_cases e : j = m
                      · subst e; exact HMT.out
                      · exact HM.out j (by omega) h2 h3
                    case measure => simp [intOf]; omega
                · have HROW := hide (roomB_row hlt (rowI_meet hlm HA.out hmt))
                  unfold mt at hmt
                  go_wp2
                  refine wp_flow (by kernel_rfl) (by kernel_rfl) (fun u => ⟨#[_, _, _, _, _, _, _, _, _, _, _, _, _, _, _, _, _, _, _, _, _, _, _, _, _, _, _, _, _, _, _, _, _, _, _, _, _, _, _, _, _, _, _, _, _, _, _, _, _, _, _, u 0, u 1, u 2, u 3, u 4, u 5, u 6, u 7, u 8, u 9, u 10, u 11, u 12, u 13, _, _, _, _, _], _⟩) (fun i => List.getD [_, _, _, _, _, _, _, _, _, _, _, _, _, _] i undef) [is ?v22_0, is ?v22_1, is ?v22_2, is ?v22_3, is ?v22_4, is ?v22_5, is ?v22_6, is ?v22_7, is ?v22_8, is ?v22_9, is ?v22_10, is ?v22_11, is ?v22_12, is ?v22_13] (fun w' => w'.cell? ⟨wq.heap.size, 0, none⟩ = some (.int .i64 (gx l k)) ∧ w'.cell? ⟨wq.heap.size, 1, none⟩ = some (.int .i64 (gy l k)) ∧ w'.cell? ⟨wq.heap.size, 2, none⟩ = some (.int .i64 (gx l (nx l k))) ∧ w'.cell? ⟨wq.heap.size, 3, none⟩ = some (.int .i64 (gy l (nx l k))) ∧ w'.cell? ⟨g, m * 4, none⟩ = some (.int .i64 (gx l m)) ∧ w'.cell? ⟨g, m * 4 + 1, none⟩ = some (.int .i64 (gy l m)) ∧ w'.cell? ⟨g, m * 4 + 2, none⟩ = some (.int .i64 (gx l (nx l m))) ∧ w'.cell? ⟨g, m * 4 + 3, none⟩ = some (.int .i64 (gy l (nx l m)))) _ rfl ?hC22 ?hs22 ?hV22 ?fin22
                  case hC22 => (intro w' hx; and_intros <;> (first | (refine (Eq.trans (hx.cells _ _ ?_) ?_) <;> first | assumption | omega | (simp; done) | (simp; omega) | (simp [go_sem, World.cell?_alloc_past, *]; done)) | (have hz := hx.size; first | omega | (simp at hz; omega))))
                  case hs22 =>
                    repeat' (first
                      | exact FSteps.nil
                      | refine FSteps.cons ?_ ?_
                      | (refine FStep.off_ _ _ _ rfl rfl ?_ (fun _ => rfl) ?_; (focus (intro u w hd; simp [vOf, is, Region.binds] at hd; simp [hd])); (intro w'; exact rfl); done)
                      | ((first
                          | refine FStep.plain rfl ?_
                          | (refine FStep.on_ _ _ _ rfl rfl ?_ ?_; (focus (intro u w hd; simp [vOf, is, Region.binds] at hd; simp [hd]))))
                         intro u w hW hC hd K hK
                         (try simp [vOf, is, Region.binds] at hd)
                         simp only [upd, Nat.reduceEqDiff, if_true, if_false] at hK
                         (try simp only [hd] at hK)
                         go_simp
                         (first
                           | (refine hK _ _ ?_ ?_; (first | exact rfl); (repeat (first | exact Ext.refl _ | assumption | apply Ext.alloc | apply Ext.drew | apply Ext.drewN | (refine Ext.trans ?_ (by assumption)))))
                           | (go_at_call 60; refine (DoMeet_any _ _ _ _ _ _ _ _ _).mono ?_; rintro e w1 ⟨rfl, hb⟩; (try go_simp); refine hK _ _ ?_ ?_; (first | exact rfl); (repeat (first | exact Ext.refl _ | assumption | apply Ext.alloc | apply Ext.drew | apply Ext.drewN | (refine Ext.trans ?_ (by assumption))))))))
                  case hV22 => (simp only [List.forall_mem_cons]; simp [stable_is])
                  case fin22 =>
                    intro u w2 hW2 hC2 hd
                    simp only [AllV, is] at hd
                    simp only [hd]
                    clear hd
                    go_wp2
                    go_ret
                    exact ⟨by rw [HROW.out]; rfl, by (repeat (first | exact Ext.refl _ | assumption | apply Ext.alloc | apply Ext.drew | apply Ext.drewN | (refine Ext.trans ?_ (by assumption))))⟩
            · have HROW := hide (rowI_all HT.out (fun j h1 h2 => HM.out j (by omega) h1 h2))
              go_wp2
              go_roundw
              case rel =>
                refine ⟨k + 1, by omega, by go_num, by (repeat (first | exact Ext.refl _ | assumption | apply Ext.alloc | apply Ext.drew | apply Ext.drewN | (refine Ext.trans ?_ (by assumption)))), fun j hj => ?_⟩
                by_cases e : j = k
                · subst e; exact HROW.out
                · exact HR.out j (by omega)
              case measure => simp [intOf]; omega
    · have HEND := hide (roomB_end hs ha (fun i hi => HR.out i (by omega)))
      go_wp2_with (go_at_call 61; refine (area_any _ _ _ _ (hp.ext (by (repeat (first | exact Ext.refl _ | assumption | apply Ext.alloc | apply Ext.drew | apply Ext.drewN | (refine Ext.trans ?_ (by assumption)))))) hfine).mono ?_; rintro e w3 ⟨rfl, hb3⟩)
      go_ret
      exact ⟨by rw [HEND.out]; rfl, by (repeat (first | exact Ext.refl _ | assumption | apply Ext.alloc | apply Ext.drew | apply Ext.drewN | (refine Ext.trans ?_ (by assumption))))⟩

end Go.Proofs.YtkdhgngpapfkdaaDoor
