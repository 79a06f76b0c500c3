/-
  Contract: the reference's RoomOk.
-/
import Derived.Test.YtanagdlikoinaaaRoomOk
namespace Go.Proofs.Ytanagdlikoinaaa
open Go.RowKit

/-- a pointer to a new block, whole -/
def NewP (lo : Nat) (cs : Array Value) (T : TypeId) (v : Value) (w : World) : Prop := ∃ b, v = .pointer (some ⟨b, 0, none⟩) ∧ lo ≤ b ∧ w.heap[b]? = some (.cells cs T (0, 0))
theorem heap_lt {w : World} {b : Nat} {o : Obj} (h : w.heap[b]? = some o) : b < w.heap.size := by
  rcases Nat.lt_or_ge b w.heap.size with h2 | h2
  · exact h2
  · rw [Array.getElem?_eq_none h2] at h; cases h
theorem blk_cell {w : World} {b : Nat} {cs : Array Value} {T : TypeId} (h : w.heap[b]? = some (.cells cs T (0, 0))) (o : Nat) : w.cell? ⟨b, o, none⟩ = cs[o]? := by simp [World.cell?, h]
theorem blk_free {w : World} {b : Nat} {cs : Array Value} {T : TypeId} (h : w.heap[b]? = some (.cells cs T (0, 0))) (o : Nat) : w.frozen? ⟨b, o, none⟩ = false := by simp [World.frozen?, h]
theorem NewP_stable (lo : Nat) (cs : Array Value) (T : TypeId) : Stable (NewP lo cs T) := by
  rintro v w w' ⟨b, rfl, h1, h2⟩ hx
  exact ⟨b, rfl, h1, (hx.below.block b (heap_lt h2)).trans h2⟩
theorem NewP_mk {lo : Nat} {cs : Array Value} (w : World) (T : TypeId) (h : lo ≤ w.heap.size) : NewP lo cs T (.pointer (some ⟨w.heap.size, 0, none⟩)) (w.alloc (.cells cs T)) := ⟨_, rfl, h, heap_alloc_new w _⟩

set_option maxRecDepth 100000 in
set_option maxHeartbeats 8000000 in
theorem sRoomOk_any (A : Option Addr) (l : List (Int × Int)) (c : Nat) (w : World) (hp : RPts w A l) (hn : l.length ≤ 1048576) :
    Calls Try.prog 47 #[.agg #[.slice A l.length c]] w fun e w' => e = .returned (.bool (roomB l)) ∧ Ext w w' := by
  have HB : Hid (∀ w', Ext (w.alloc (.cells #[.slice A l.length c] 26)) w' → w'.cell? ⟨w.heap.size, 0, none⟩ = some (.slice A l.length c)) := fun w' hx => by
    and_intros <;> (((first | rw [hx.cells _ _ (by first | (simp; done) | (simp; omega))] | rw [hx.frozens _ _ (by first | (simp; done) | (simp; omega))]); (first | (simp [go_sem]; done) | (simp [go_sem, World.cell?_alloc_past]; done) | (simp [go_sem, World.frozen?]; done))))
  have hin := sizeB_inB l
  cases hs : sizeB l
  · rw [roomB_size hs]
    rw [hs] at hin
    go_enter Try.func47, Try.ntmps47
    go_wp2_with (go_at_call 54; refine (l01In_any _ _ _ _).mono ?_; rintro e w1 ⟨rfl, rfl⟩)
    go_ret
    exact ⟨rfl, by (repeat (first | exact Ext.refl _ | assumption | apply Ext.alloc | apply Ext.drew | apply Ext.drewN | (refine Ext.trans ?_ (by assumption))))⟩
  rw [hs] at hin
  have hlen : 3 ≤ l.length ∧ l.length ≤ 10 := by unfold sizeB at hs; simpa using hs
  obtain ⟨hl3, hl10⟩ := hlen
  go_enter Try.func47, Try.ntmps47
  go_wp2_with (go_at_call 54; refine (l01In_any _ _ _ _).mono ?_; rintro e w1 ⟨rfl, rfl⟩)
  go_loopw [4] (fun i wr => ∃ k : Nat, k ≤ l.length ∧ i = .int .i64 k ∧ Ext (w.alloc (.cells #[.slice A l.length c] 26)) wr ∧ Hid (allok (l.take k) = true)) (fun i _ => l.length - (intOf i).toNat)
  case atStart => exact ⟨0, Nat.zero_le _, rfl, Ext.refl _, rfl⟩
  case round =>
    obtain ⟨k, hk, rfl, hbl, HOK⟩ := hrel
    obtain ⟨wp, rfl⟩ : ∃ wp : World, wp = wr := ⟨_, rfl⟩
    have hcb := HB.out wp hbl
    by_cases hlt : k < l.length
    · obtain ⟨b, off, rfl, hz1, hx, hy⟩ := (hp.ext (by (repeat (first | exact Ext.refl _ | assumption | apply Ext.alloc | apply Ext.drew | apply Ext.drewN | (refine Ext.trans ?_ (by assumption)))) : Ext w wp)).at_ hlt
      by_cases ho : pok (gx l k) (gy l k) = true
      · have HO := hide ho
        go_wp2_with (go_at_call 55; refine (spok_any _ _ _).mono ?_; rintro e w1 ⟨rfl, hb⟩)
        go_roundw
        case rel => exact ⟨k + 1, by omega, by go_num, by (repeat (first | exact Ext.refl _ | assumption | apply Ext.alloc | apply Ext.drew | apply Ext.drewN | (refine Ext.trans ?_ (by assumption)))), by unfold Hid; rw [allok_take_succ _ _ hlt, HOK.out, HO.out]; rfl⟩
        case measure => simp [intOf]; omega
      · have hf : pok (gx l k) (gy l k) = false := by simpa using ho
        have HF := hide (roomB_allok (allok_false _ _ hlt hf))
        go_wp2_with (go_at_call 55; refine (spok_any _ _ _).mono ?_; rintro e w1 ⟨rfl, hb⟩)
        go_ret
        exact ⟨by rw [HF.out]; rfl, by (repeat (first | exact Ext.refl _ | assumption | apply Ext.alloc | apply Ext.drew | apply Ext.drewN | (refine Ext.trans ?_ (by assumption))))⟩
    · have ha : allok l = true := by
        have e : l.take k = l := List.take_of_length_le (by omega)
        have := HOK.out
        rwa [e] at this
      have hfine : Fine l := ⟨ha, hl10⟩
      have HA := hide ha
      clear ha HOK hcb
      go_wp2
      go_loopw [5] (fun i wr => ∃ k : Nat, k ≤ l.length ∧ i = .int .i64 k ∧ Ext (w.alloc (.cells #[.slice A l.length c] 26)) wr ∧ Hid (∀ j, j < k → rowS l j = true)) (fun i _ => l.length - (intOf i).toNat)
      case atStart => exact ⟨0, Nat.zero_le _, rfl, hbl, fun j hj => absurd hj (by omega)⟩
      case round =>
        obtain ⟨q, hq, rfl, hbq, HR⟩ := hrel
        obtain ⟨wq, rfl⟩ : ∃ wq : World, wq = wr := ⟨_, rfl⟩
        clear hbl hk hlt
        have hcb := HB.out wq hbq
        have hszr : w.heap.size < wq.heap.size := by have := hbq.size; simp at this; omega
        by_cases hql : q < l.length
        · have hne : l ≠ [] := fun e => by rw [e] at hql; simp at hql
          have hm1 : nx l q < l.length := Nat.mod_lt _ (by omega)
          have hm2 : (q + 2) % l.length < l.length := Nat.mod_lt _ (by omega)
          have hpq : RPts wq A l := hp.ext (by (repeat (first | exact Ext.refl _ | assumption | apply Ext.alloc | apply Ext.drew | apply Ext.drewN | (refine Ext.trans ?_ (by assumption)))))
          obtain ⟨b, off, rfl, hz1, hx0, hy0⟩ := hpq.at_ hql
          obtain ⟨b', off', hA', _, hx1, hy1⟩ := hpq.at_ hm1
          injection hA' with hA'; injection hA' with e1 e2 _; subst e1 e2
          obtain ⟨b', off', hA', _, hx2, hy2⟩ := hpq.at_ hm2
          injection hA' with hA'; injection hA' with e1 e2 _; subst e1 e2
          obtain ⟨q1, q2, q3, q4, q5⟩ := idx_facts ((q : Int) + 1) (q + 1) l.length (by omega) (by omega) (by omega)
          unfold nx at hx1 hy1
          have hz2 : b < (wq.alloc (.cells #[.int .i64 (gx l q), .int .i64 (gy l q)] 38)).heap.size := by simp; omega
          have hz3 : w.heap.size < (wq.alloc (.cells #[.int .i64 (gx l q), .int .i64 (gy l q)] 38)).heap.size := by simp; omega
          go_wp2
          refine wp_flow_tail 9 (by kernel_rfl) (by kernel_rfl) (by kernel_rfl) (by kernel_rfl) (fun u => ⟨#[_, _, _, _, _, _, _, u 8, _, _, _, _, _, _, _, _, _, _, _, _, _, _, _, _, _, _, _, _, _, _, _, _, _, _, _, _, _, u 0, u 1, u 2, u 3, u 4, u 5, u 6, u 7, _, _, _, _, _, _, _, _, _, _, _, _, _, _, _, _, _, _, _, _, _, _, _, _, _, _, _, _, _, _, _, _, _, _, _, _, _, _, _, _, _, _, _, _, _, _, _, _, _, _, _, _, _, _, _, _, _, _], _⟩) (fun i => List.getD [_, _, _, _, _, _, _, _, _] i undef) [is ?v1_0, is ?v1_1, is ?v1_2, is ?v1_3, is ?v1_4, is ?v1_5, is ?v1_6, is ?v1_7, (NewP (wq.heap.size + 1) #[.int .i64 0, .int .i64 0] 38)] (fun w' => w'.cell? ⟨wq.heap.size, 0, none⟩ = some (.int .i64 (gx l q)) ∧ w'.cell? ⟨wq.heap.size, 1, none⟩ = some (.int .i64 (gy l q)) ∧ w'.cell? ⟨w.heap.size, 0, none⟩ = some (.slice (some ⟨b, off, none⟩) l.length c) ∧ w'.cell? ⟨b, off + (q + 1) % l.length * 2, none⟩ = some (.int .i64 (gx l ((q + 1) % l.length))) ∧ w'.cell? ⟨b, off + (q + 1) % l.length * 2 + 1, none⟩ = some (.int .i64 (gy l ((q + 1) % l.length))) ∧ w'.cell? ⟨b, off + (q + 2) % l.length * 2, none⟩ = some (.int .i64 (gx l ((q + 2) % l.length))) ∧ w'.cell? ⟨b, off + (q + 2) % l.length * 2 + 1, none⟩ = some (.int .i64 (gy l ((q + 2) % l.length))) ∧ wq.heap.size + 1 ≤ w'.heap.size) _ rfl ?hC1 ?hs1 ?hV1 ?fin1
          case hC1 => (intro w' hx; and_intros <;> (first | (refine (Eq.trans (hx.cells _ _ ?_) ?_) <;> first | assumption | omega | (simp; done) | (simp; omega) | (simp [go_sem, World.cell?_alloc_past, *]; done)) | (have hz := hx.size; first | omega | (simp at hz; omega))))
          case hs1 =>
            repeat' (first
              | exact FSteps.nil
              | refine FSteps.cons ?_ ?_
              | (refine FStep.off_ _ _ _ rfl rfl ?_ (fun _ => rfl) ?_; (focus (intro u w hd; simp [vOf, is, Region.binds] at hd; simp [hd])); (intro w'; exact rfl); done)
              | ((first
                  | refine FStep.plain rfl ?_
                  | (refine FStep.on_ _ _ _ rfl rfl ?_ ?_; (focus (intro u w hd; simp [vOf, is, Region.binds] at hd; simp [hd]))))
                 intro u w hW hC hd K hK
                 (try simp [vOf, is, Region.binds] at hd)
                 simp only [upd, Nat.reduceEqDiff, if_true, if_false] at hK
                 (try simp only [hd] at hK)
                 go_simp
                 (first
                   | (refine hK _ _ ?_ ?_; (first | exact rfl | exact NewP_mk _ _ hC.2.2.2.2.2.2.2); (repeat (first | exact Ext.refl _ | assumption | apply Ext.alloc | apply Ext.drew | apply Ext.drewN | (refine Ext.trans ?_ (by assumption))))))))
          case hV1 => (simp only [List.forall_mem_cons]; simp [stable_is, NewP_stable])
          case fin1 =>
            intro u w2 hW2 hC2 hd
            simp only [AllV, is] at hd
            have hs8 := hd.2.2.2.2.2.2.2.2.1
            simp only [List.drop_succ_cons, List.drop_zero]
            simp only [hd]
            clear hd
            obtain ⟨bq, hu, hlo, hblk⟩ := hs8
            simp only [hu]
            have y1 : w2.cell? ⟨bq, 0, none⟩ = some (.int .i64 0) := by rw [blk_cell hblk]; rfl
            have y2 : w2.cell? ⟨bq, 1, none⟩ = some (.int .i64 0) := by rw [blk_cell hblk]; rfl
            have y3 := blk_free hblk 0
            have y4 := blk_free hblk 1
            go_wp2
            have hW3 : Ext wq w2 := by (repeat (first | exact Ext.refl _ | assumption | apply Ext.alloc | apply Ext.drew | apply Ext.drewN | (refine Ext.trans ?_ (by assumption))))
            have hsz2 : wq.heap.size < w2.heap.size := by have := hW2.size; simp at this; omega
            have hbq2 := heap_lt hblk
            obtain ⟨d1, d2, d3, d4, d5, d6, d7, d8⟩ := hC2
            have F : ∀ w3, w3 = (w2.setCell ⟨bq, 0, none⟩ (.int .i64 (gx l ((q + 1) % l.length)))).setCell ⟨bq, 1, none⟩ (.int .i64 (gy l ((q + 1) % l.length))) →
                Ext wq w3 ∧ bq < w3.heap.size ∧ wq.heap.size < w3.heap.size ∧ w3.cell? ⟨wq.heap.size, 0, none⟩ = some (.int .i64 (gx l q)) ∧ w3.cell? ⟨wq.heap.size, 1, none⟩ = some (.int .i64 (gy l q)) ∧
                w3.cell? ⟨bq, 0, none⟩ = some (.int .i64 (gx l ((q + 1) % l.length))) ∧ w3.cell? ⟨bq, 1, none⟩ = some (.int .i64 (gy l ((q + 1) % l.length))) := by
              rintro w3 rfl
              have far : ∀ (o : Nat), ((w2.setCell ⟨bq, 0, none⟩ (.int .i64 (gx l ((q + 1) % l.length)))).setCell ⟨bq, 1, none⟩ (.int .i64 (gy l ((q + 1) % l.length)))).cell? ⟨wq.heap.size, o, none⟩ = w2.cell? ⟨wq.heap.size, o, none⟩ := fun o =>
                World.cell?_of_block (w := w2) (a := ⟨wq.heap.size, o, none⟩) ((Below.heap_setCell _ _ _ _ (by simp; omega)).trans (Below.heap_setCell _ _ _ _ (by simp; omega)))
              refine ⟨(hW3.setCell (by simp; omega) _).setCell (by simp; omega) _, by simpa [size_setCell] using hbq2, by simpa [size_setCell] using hsz2, (far 0).trans d1, (far 1).trans d2, ?_, ?_⟩
              · simp [go_sem, y1]
              · simp [go_sem, y2]
            clear d1 d2 d3 d4 d5 d6 d7 d8 y1 y2 y3 y4 hblk hlo hsz2 hbq2 q1 q2 q3 q4 q5 hx0 hy0 hx1 hy1 hz2 hz3
            generalize (w2.setCell ⟨bq, 0, none⟩ (.int .i64 (gx l ((q + 1) % l.length)))).setCell ⟨bq, 1, none⟩ (.int .i64 (gy l ((q + 1) % l.length))) = w3 at F ⊢
            obtain ⟨hx3, hbq3, hwq3, f1, f2, f3, f4⟩ := F _ rfl
            have g1 := (hx3.cells _ _ hszr).trans hcb
            have g2 := (hx3.cells _ _ hz1).trans hx2
            have g3 := (hx3.cells _ _ hz1).trans hy2
            have hz4 : b < w3.heap.size := Nat.lt_of_lt_of_le hz1 hx3.size
            have hz5 : w.heap.size < w3.heap.size := Nat.lt_of_lt_of_le hszr hx3.size
            clear hx2 hy2 hcb hu hW3 hW2 F
            obtain ⟨q1, q2, q3, q4, q5⟩ := idx_facts ((q : Int) + 2) (q + 2) l.length (by omega) (by omega) (by omega)
            by_cases ht : tn l q = 0
            · have HROW := hide (roomB_rowS hql (rowS_turn ht))
              unfold tn nx at ht
              refine wp_flow (by kernel_rfl) (by kernel_rfl) (fun u => ⟨#[_, _, _, _, _, _, _, _, _, _, _, _, _, _, _, _, _, _, _, _, _, _, _, _, _, _, _, _, _, _, _, _, _, _, _, _, _, _, _, _, _, _, _, _, _, u 0, u 1, u 2, u 3, u 4, u 5, u 6, u 7, u 8, u 9, u 10, u 11, _, _, _, _, _, _, _, _, _, _, _, _, _, _, _, _, _, _, _, _, _, _, _, _, _, _, _, _, _, _, _, _, _, _, _, _, _, _, _, _, _, _, _, _, _, _], _⟩) (fun i => List.getD [_, _, _, _, _, _, _, _, _, _, _, _] i undef) [is ?v2_0, is ?v2_1, is ?v2_2, is ?v2_3, is ?v2_4, is ?v2_5, is ?v2_6, is ?v2_7, is ?v2_8, is ?v2_9, is ?v2_10, is ?v2_11] (fun w' => w'.cell? ⟨wq.heap.size, 0, none⟩ = some (.int .i64 (gx l q)) ∧ w'.cell? ⟨wq.heap.size, 1, none⟩ = some (.int .i64 (gy l q)) ∧ w'.cell? ⟨bq, 0, none⟩ = some (.int .i64 (gx l ((q + 1) % l.length))) ∧ w'.cell? ⟨bq, 1, none⟩ = some (.int .i64 (gy l ((q + 1) % l.length))) ∧ w'.cell? ⟨w.heap.size, 0, none⟩ = some (.slice (some ⟨b, off, none⟩) l.length c) ∧ w'.cell? ⟨b, off + (q + 2) % l.length * 2, none⟩ = some (.int .i64 (gx l ((q + 2) % l.length))) ∧ w'.cell? ⟨b, off + (q + 2) % l.length * 2 + 1, none⟩ = some (.int .i64 (gy l ((q + 2) % l.length)))) _ rfl ?hC2 ?hs2 ?hV2 ?fin2
              case hC2 => (intro w' hx; and_intros <;> (first | (refine (Eq.trans (hx.cells _ _ ?_) ?_) <;> first | assumption | omega | (simp; done) | (simp; omega) | (simp [go_sem, World.cell?_alloc_past, *]; done)) | (have hz := hx.size; first | omega | (simp at hz; omega))))
              case hs2 =>
                repeat' (first
                  | exact FSteps.nil
                  | refine FSteps.cons ?_ ?_
                  | (refine FStep.off_ _ _ _ rfl rfl ?_ (fun _ => rfl) ?_; (focus (intro u w hd; simp [vOf, is, Region.binds] at hd; simp [hd])); (intro w'; exact rfl); done)
                  | ((first
                      | refine FStep.plain rfl ?_
                      | (refine FStep.on_ _ _ _ rfl rfl ?_ ?_; (focus (intro u w hd; simp [vOf, is, Region.binds] at hd; simp [hd]))))
                     intro u w hW hC hd K hK
                     (try simp [vOf, is, Region.binds] at hd)
                     simp only [upd, Nat.reduceEqDiff, if_true, if_false] at hK
                     (try simp only [hd] at hK)
                     go_simp
                     (first
                       | (refine hK _ _ ?_ ?_; (first | exact rfl); (repeat (first | exact Ext.refl _ | assumption | apply Ext.alloc | apply Ext.drew | apply Ext.drewN | (refine Ext.trans ?_ (by assumption)))))
                       | (go_at_call 56; refine (sturn_any _ _ _ _ _ _ _).mono ?_; rintro e w1 ⟨rfl, hb⟩; (try go_simp); refine hK _ _ ?_ ?_; (first | exact rfl); (repeat (first | exact Ext.refl _ | assumption | apply Ext.alloc | apply Ext.drew | apply Ext.drewN | (refine Ext.trans ?_ (by assumption))))))))
              case hV2 => (simp only [List.forall_mem_cons]; simp [stable_is])
              case fin2 =>
                intro u w2 hW2 hC2 hd
                simp only [AllV, is] at hd
                simp only [hd]
                clear hd
                go_wp2
                go_ret
                exact ⟨by rw [HROW.out]; rfl, by (repeat (first | exact Ext.refl _ | assumption | apply Ext.alloc | apply Ext.drew | apply Ext.drewN | (refine Ext.trans ?_ (by assumption))))⟩
            · have HT := hide ht
              unfold tn nx at ht
              have ht2 : (turnW (gx l q) (gy l q) (gx l ((q + 1) % l.length)) (gy l ((q + 1) % l.length)) (gx l ((q + 2) % l.length)) (gy l ((q + 2) % l.length)) == 0) = false := by simpa using ht
              refine wp_flow (by kernel_rfl) (by kernel_rfl) (fun u => ⟨#[_, _, _, _, _, _, _, _, _, _, _, _, _, _, _, _, _, _, _, _, _, _, _, _, _, _, _, _, _, _, _, _, _, _, _, _, _, _, _, _, _, _, _, _, _, u 0, u 1, u 2, u 3, u 4, u 5, u 6, u 7, u 8, u 9, u 10, u 11, _, _, _, _, _, _, _, _, _, _, _, _, _, _, _, _, _, _, _, _, _, _, _, _, _, _, _, _, _, _, _, _, _, _, _, _, _, _, _, _, _, _, _, _, _, _], _⟩) (fun i => List.getD [_, _, _, _, _, _, _, _, _, _, _, _] i undef) [is ?v3_0, is ?v3_1, is ?v3_2, is ?v3_3, is ?v3_4, is ?v3_5, is ?v3_6, is ?v3_7, is ?v3_8, is ?v3_9, is ?v3_10, is ?v3_11] (fun w' => w'.cell? ⟨wq.heap.size, 0, none⟩ = some (.int .i64 (gx l q)) ∧ w'.cell? ⟨wq.heap.size, 1, none⟩ = some (.int .i64 (gy l q)) ∧ w'.cell? ⟨bq, 0, none⟩ = some (.int .i64 (gx l ((q + 1) % l.length))) ∧ w'.cell? ⟨bq, 1, none⟩ = some (.int .i64 (gy l ((q + 1) % l.length))) ∧ w'.cell? ⟨w.heap.size, 0, none⟩ = some (.slice (some ⟨b, off, none⟩) l.length c) ∧ w'.cell? ⟨b, off + (q + 2) % l.length * 2, none⟩ = some (.int .i64 (gx l ((q + 2) % l.length))) ∧ w'.cell? ⟨b, off + (q + 2) % l.length * 2 + 1, none⟩ = some (.int .i64 (gy l ((q + 2) % l.length)))) _ rfl ?hC3 ?hs3 ?hV3 ?fin3
              case hC3 => (intro w' hx; and_intros <;> (first | (refine (Eq.trans (hx.cells _ _ ?_) ?_) <;> first | assumption | omega | (simp; done) | (simp; omega) | (simp [go_sem, World.cell?_alloc_past, *]; done)) | (have hz := hx.size; first | omega | (simp at hz; omega))))
              case hs3 =>
                repeat' (first
                  | exact FSteps.nil
                  | refine FSteps.cons ?_ ?_
                  | (refine FStep.off_ _ _ _ rfl rfl ?_ (fun _ => rfl) ?_; (focus (intro u w hd; simp [vOf, is, Region.binds] at hd; simp [hd])); (intro w'; exact rfl); done)
                  | ((first
                      | refine FStep.plain rfl ?_
                      | (refine FStep.on_ _ _ _ rfl rfl ?_ ?_; (focus (intro u w hd; simp [vOf, is, Region.binds] at hd; simp [hd]))))
                     intro u w hW hC hd K hK
                     (try simp [vOf, is, Region.binds] at hd)
                     simp only [upd, Nat.reduceEqDiff, if_true, if_false] at hK
                     (try simp only [hd] at hK)
                     go_simp
                     (first
                       | (refine hK _ _ ?_ ?_; (first | exact rfl); (repeat (first | exact Ext.refl _ | assumption | apply Ext.alloc | apply Ext.drew | apply Ext.drewN | (refine Ext.trans ?_ (by assumption)))))
                       | (go_at_call 56; refine (sturn_any _ _ _ _ _ _ _).mono ?_; rintro e w1 ⟨rfl, hb⟩; (try go_simp); refine hK _ _ ?_ ?_; (first | exact rfl); (repeat (first | exact Ext.refl _ | assumption | apply Ext.alloc | apply Ext.drew | apply Ext.drewN | (refine Ext.trans ?_ (by assumption))))))))
              case hV3 => (simp only [List.forall_mem_cons]; simp [stable_is])
              case fin3 =>
                intro u w2 hW2 hC2 hd
                simp only [AllV, is] at hd
                simp only [hd]
                clear hd
                clear ht ht2 g2 g3 q1 q2 q3 q4 q5 hC2
                have hx4 : Ext wq w2 := by (repeat (first | exact Ext.refl _ | assumption | apply Ext.alloc | apply Ext.drew | apply Ext.drewN | (refine Ext.trans ?_ (by assumption))))
                have HW : Hid (∀ w', Ext w2 w' → (bq < w'.heap.size ∧ wq.heap.size < w'.heap.size ∧ w.heap.size < w'.heap.size) ∧ w'.cell? ⟨wq.heap.size, 0, none⟩ = some (.int .i64 (gx l q)) ∧ w'.cell? ⟨wq.heap.size, 1, none⟩ = some (.int .i64 (gy l q)) ∧
                    w'.cell? ⟨bq, 0, none⟩ = some (.int .i64 (gx l ((q + 1) % l.length))) ∧ w'.cell? ⟨bq, 1, none⟩ = some (.int .i64 (gy l ((q + 1) % l.length))) ∧ w'.cell? ⟨w.heap.size, 0, none⟩ = some (.slice (some ⟨b, off, none⟩) l.length c)) := fun w' hx => by
                  have h34 : Ext w3 w' := hW2.trans hx
                  have := h34.size
                  exact ⟨⟨by omega, by omega, by omega⟩, (h34.cells _ _ hwq3).trans f1, (h34.cells _ _ hwq3).trans f2, (h34.cells _ _ hbq3).trans f3, (h34.cells _ _ hbq3).trans f4, (h34.cells _ _ hz5).trans g1⟩
                clear f1 f2 f3 f4 g1 hwq3 hbq3 hz4 hz5 hx3 hW2
                obtain ⟨wo, rfl⟩ : ∃ wo : World, wo = w2 := ⟨_, rfl⟩
                go_wp2
                go_loopw [8] (fun x wi => ∃ m : Nat, m ≤ l.length ∧ x = .int .i64 m ∧ Ext wo wi ∧ Hid (∀ j, j < m → j < l.length → askS l q j = true → mt l q j = false)) (fun x _ => l.length - (intOf x).toNat)
                case atStart => exact ⟨0, Nat.zero_le _, rfl, Ext.refl _, fun j h1 _ _ => absurd h1 (by omega)⟩
                case round =>
                  obtain ⟨m, hm, rfl, hxi, HM⟩ := hrel
                  obtain ⟨⟨s1, s2, s3⟩, v1, v2, v3, v4, v5⟩ := HW.out _ hxi
                  by_cases hlm : m < l.length
                  · have hnm : nx l m < l.length := Nat.mod_lt _ (by omega)
                    have hpi : RPts _ (some ⟨b, off, none⟩) l := (hpq.ext hx4).ext hxi
                    obtain ⟨b', off', hA', s4, m1, m2⟩ := hpi.at_ hlm
                    injection hA' with hA'; injection hA' with e1 e2 _; subst e1 e2
                    obtain ⟨b', off', hA', _, m3, m4⟩ := hpi.at_ hnm
                    injection hA' with hA'; injection hA' with e1 e2 _; subst e1 e2
                    unfold nx at m3 m4 hnm
                    obtain ⟨q1, q2, q3, q4, q5⟩ := idx_facts ((m : Int) + 1) (m + 1) l.length (by omega) (by omega) (by omega)
                    obtain ⟨r1, r2, r3, r4, r5⟩ := idx_facts ((q : Int) + 1) (q + 1) l.length (by omega) (by omega) (by omega)
                    have B1 : ((m : Int) == (q : Int)) = (m == q) := by rw [Bool.eq_iff_iff, beq_iff_eq, beq_iff_eq]; omega
                    have B2 : (((m : Int) + 1) % (l.length : Int) == (q : Int)) = ((m + 1) % l.length == q) := by rw [Bool.eq_iff_iff, beq_iff_eq, beq_iff_eq]; omega
                    have B3 : (((q : Int) + 1) % (l.length : Int) == (m : Int)) = ((q + 1) % l.length == m) := by rw [Bool.eq_iff_iff, beq_iff_eq, beq_iff_eq]; omega
                    clear r5
                    cases e1 : (m == q)
                    · rw [e1] at B1
                      cases e2 : ((m + 1) % l.length == q)
                      · rw [e2] at B2
                        cases e3 : ((q + 1) % l.length == m)
                        · rw [e3] at B3
                          have HA := hide (show askS l q m = true by simp only [askS, e1, e2, e3]; rfl)
                          clear e1 e2 e3
                          cases hmt : mt l q m
                          · have HMT := hide hmt
                            unfold mt nx at hmt
                            go_wp2
                            refine wp_flow (by kernel_rfl) (by kernel_rfl) (fun u => ⟨#[_, _, _, _, _, _, _, _, _, _, _, _, _, _, _, _, _, _, _, _, _, _, _, _, _, _, _, _, _, _, _, _, _, _, _, _, _, _, _, _, _, _, _, _, _, _, _, _, _, _, _, _, _, _, _, _, _, _, _, _, _, _, _, _, _, _, _, _, _, _, _, _, _, _, _, _, _, _, _, _, _, u 0, u 1, u 2, u 3, u 4, u 5, u 6, u 7, u 8, u 9, u 10, u 11, u 12, u 13, u 14, u 15, u 16, u 17, _, _, _, _], _⟩) (fun i => List.getD [_, _, _, _, _, _, _, _, _, _, _, _, _, _, _, _, _, _] i undef) [is ?v4_0, is ?v4_1, is ?v4_2, is ?v4_3, is ?v4_4, is ?v4_5, is ?v4_6, is ?v4_7, is ?v4_8, is ?v4_9, is ?v4_10, is ?v4_11, is ?v4_12, is ?v4_13, is ?v4_14, is ?v4_15, is ?v4_16, is ?v4_17] (fun w' => w'.cell? ⟨wq.heap.size, 0, none⟩ = some (.int .i64 (gx l q)) ∧ w'.cell? ⟨wq.heap.size, 1, none⟩ = some (.int .i64 (gy l q)) ∧ w'.cell? ⟨bq, 0, none⟩ = some (.int .i64 (gx l ((q + 1) % l.length))) ∧ w'.cell? ⟨bq, 1, none⟩ = some (.int .i64 (gy l ((q + 1) % l.length))) ∧ w'.cell? ⟨w.heap.size, 0, none⟩ = some (.slice (some ⟨b, off, none⟩) l.length c) ∧ w'.cell? ⟨b, off + m * 2, none⟩ = some (.int .i64 (gx l m)) ∧ w'.cell? ⟨b, off + m * 2 + 1, none⟩ = some (.int .i64 (gy l m)) ∧ w'.cell? ⟨b, off + (m + 1) % l.length * 2, none⟩ = some (.int .i64 (gx l ((m + 1) % l.length))) ∧ w'.cell? ⟨b, off + (m + 1) % l.length * 2 + 1, none⟩ = some (.int .i64 (gy l ((m + 1) % l.length)))) _ rfl ?hC4 ?hs4 ?hV4 ?fin4
                            case hC4 => (intro w' hx; and_intros <;> (first | (refine (Eq.trans (hx.cells _ _ ?_) ?_) <;> first | assumption | omega | (simp; done) | (simp; omega) | (simp [go_sem, World.cell?_alloc_past, *]; done)) | (have hz := hx.size; first | omega | (simp at hz; omega))))
                            case hs4 =>
                              repeat' (first
                                | exact FSteps.nil
                                | refine FSteps.cons ?_ ?_
                                | (refine FStep.off_ _ _ _ rfl rfl ?_ (fun _ => rfl) ?_; (focus (intro u w hd; simp [vOf, is, Region.binds] at hd; simp [hd])); (intro w'; exact rfl); done)
                                | ((first
                                    | refine FStep.plain rfl ?_
                                    | (refine FStep.on_ _ _ _ rfl rfl ?_ ?_; (focus (intro u w hd; simp [vOf, is, Region.binds] at hd; simp [hd]))))
                                   intro u w hW hC hd K hK
                                   (try simp [vOf, is, Region.binds] at hd)
                                   simp only [upd, Nat.reduceEqDiff, if_true, if_false] at hK
                                   (try simp only [hd] at hK)
                                   go_simp
                                   (first
                                     | (refine hK _ _ ?_ ?_; (first | exact rfl); (repeat (first | exact Ext.refl _ | assumption | apply Ext.alloc | apply Ext.drew | apply Ext.drewN | (refine Ext.trans ?_ (by assumption)))))
                                     | (go_at_call 57; refine (sDoMeet_any _ _ _ _ _ _ _ _ _).mono ?_; rintro e w1 ⟨rfl, hb⟩; (try go_simp); refine hK _ _ ?_ ?_; (first | exact rfl); (repeat (first | exact Ext.refl _ | assumption | apply Ext.alloc | apply Ext.drew | apply Ext.drewN | (refine Ext.trans ?_ (by assumption))))))))
                            case hV4 => (simp only [List.forall_mem_cons]; simp [stable_is])
                            case fin4 =>
                              intro u w2 hW2 hC2 hd
                              simp only [AllV, is] at hd
                              simp only [hd]
                              clear hd
                              clear hC2
                              go_wp2
                              go_roundw
                              case rel =>
                                refine ⟨m + 1, by omega, by go_num, by (repeat (first | exact Ext.refl _ | assumption | apply Ext.alloc | apply Ext.drew | apply Ext.drewN | (refine Ext.trans ?_ (by assumption)))), fun j h1 h2 h3 => ?_⟩
                                by_cases e : j = m
                                · subst e; exact HMT.out
                                · exact HM.out j (by omega) h2 h3
                              case measure => simp [intOf]; omega
                          · have HROW := hide (roomB_rowS hql (rowS_meet hlm HA.out hmt))
                            unfold mt nx at hmt
                            go_wp2
                            refine wp_flow (by kernel_rfl) (by kernel_rfl) (fun u => ⟨#[_, _, _, _, _, _, _, _, _, _, _, _, _, _, _, _, _, _, _, _, _, _, _, _, _, _, _, _, _, _, _, _, _, _, _, _, _, _, _, _, _, _, _, _, _, _, _, _, _, _, _, _, _, _, _, _, _, _, _, _, _, _, _, _, _, _, _, _, _, _, _, _, _, _, _, _, _, _, _, _, _, u 0, u 1, u 2, u 3, u 4, u 5, u 6, u 7, u 8, u 9, u 10, u 11, u 12, u 13, u 14, u 15, u 16, u 17, _, _, _, _], _⟩) (fun i => List.getD [_, _, _, _, _, _, _, _, _, _, _, _, _, _, _, _, _, _] i undef) [is ?v5_0, is ?v5_1, is ?v5_2, is ?v5_3, is ?v5_4, is ?v5_5, is ?v5_6, is ?v5_7, is ?v5_8, is ?v5_9, is ?v5_10, is ?v5_11, is ?v5_12, is ?v5_13, is ?v5_14, is ?v5_15, is ?v5_16, is ?v5_17] (fun w' => w'.cell? ⟨wq.heap.size, 0, none⟩ = some (.int .i64 (gx l q)) ∧ w'.cell? ⟨wq.heap.size, 1, none⟩ = some (.int .i64 (gy l q)) ∧ w'.cell? ⟨bq, 0, none⟩ = some (.int .i64 (gx l ((q + 1) % l.length))) ∧ w'.cell? ⟨bq, 1, none⟩ = some (.int .i64 (gy l ((q + 1) % l.length))) ∧ w'.cell? ⟨w.heap.size, 0, none⟩ = some (.slice (some ⟨b, off, none⟩) l.length c) ∧ w'.cell? ⟨b, off + m * 2, none⟩ = some (.int .i64 (gx l m)) ∧ w'.cell? ⟨b, off + m * 2 + 1, none⟩ = some (.int .i64 (gy l m)) ∧ w'.cell? ⟨b, off + (m + 1) % l.length * 2, none⟩ = some (.int .i64 (gx l ((m + 1) % l.length))) ∧ w'.cell? ⟨b, off + (m + 1) % l.length * 2 + 1, none⟩ = some (.int .i64 (gy l ((m + 1) % l.length)))) _ rfl ?hC5 ?hs5 ?hV5 ?fin5
                            case hC5 => (intro w' hx; and_intros <;> (first | (refine (Eq.trans (hx.cells _ _ ?_) ?_) <;> first | assumption | omega | (simp; done) | (simp; omega) | (simp [go_sem, World.cell?_alloc_past, *]; done)) | (have hz := hx.size; first | omega | (simp at hz; omega))))
                            case hs5 =>
                              repeat' (first
                                | exact FSteps.nil
                                | refine FSteps.cons ?_ ?_
                                | (refine FStep.off_ _ _ _ rfl rfl ?_ (fun _ => rfl) ?_; (focus (intro u w hd; simp [vOf, is, Region.binds] at hd; simp [hd])); (intro w'; exact rfl); done)
                                | ((first
                                    | refine FStep.plain rfl ?_
                                    | (refine FStep.on_ _ _ _ rfl rfl ?_ ?_; (focus (intro u w hd; simp [vOf, is, Region.binds] at hd; simp [hd]))))
                                   intro u w hW hC hd K hK
                                   (try simp [vOf, is, Region.binds] at hd)
                                   simp only [upd, Nat.reduceEqDiff, if_true, if_false] at hK
                                   (try simp only [hd] at hK)
                                   go_simp
                                   (first
                                     | (refine hK _ _ ?_ ?_; (first | exact rfl); (repeat (first | exact Ext.refl _ | assumption | apply Ext.alloc | apply Ext.drew | apply Ext.drewN | (refine Ext.trans ?_ (by assumption)))))
                                     | (go_at_call 57; refine (sDoMeet_any _ _ _ _ _ _ _ _ _).mono ?_; rintro e w1 ⟨rfl, hb⟩; (try go_simp); refine hK _ _ ?_ ?_; (first | exact rfl); (repeat (first | exact Ext.refl _ | assumption | apply Ext.alloc | apply Ext.drew | apply Ext.drewN | (refine Ext.trans ?_ (by assumption))))))))
                            case hV5 => (simp only [List.forall_mem_cons]; simp [stable_is])
                            case fin5 =>
                              intro u w2 hW2 hC2 hd
                              simp only [AllV, is] at hd
                              simp only [hd]
                              clear hd
                              clear hC2
                              go_wp2
                              go_ret
                              exact ⟨by rw [HROW.out]; rfl, by (repeat (first | exact Ext.refl _ | assumption | apply Ext.alloc | apply Ext.drew | apply Ext.drewN | (refine Ext.trans ?_ (by assumption))))⟩
                        · rw [e3] at B3
                          have HA := hide (show askS l q m = false by simp only [askS, e1, e2, e3]; rfl)
                          clear e1 e2 e3
                          go_wp2
                          go_roundw
                          case rel =>
                            refine ⟨m + 1, by omega, by go_num, by (repeat (first | exact Ext.refl _ | assumption | apply Ext.alloc | apply Ext.drew | apply Ext.drewN | (refine Ext.trans ?_ (by assumption)))), fun j h1 h2 h3 => ?_⟩
                            by_cases e : j = m
                            · subst e; rw [HA.out] at h3; cases h3
                            · exact HM.out j (by omega) h2 h3
                          case measure => simp [intOf]; omega
                      · rw [e2] at B2
                        have HA := hide (show askS l q m = false by simp only [askS, e1, e2]; rfl)
                        clear e1 e2
                        go_wp2
                        go_roundw
                        case rel =>
                          refine ⟨m + 1, by omega, by go_num, by (repeat (first | exact Ext.refl _ | assumption | apply Ext.alloc | apply Ext.drew | apply Ext.drewN | (refine Ext.trans ?_ (by assumption)))), fun j h1 h2 h3 => ?_⟩
                          by_cases e : j = m
                          · subst e; rw [HA.out] at h3; cases h3
                          · exact HM.out j (by omega) h2 h3
                        case measure => simp [intOf]; omega
                    · rw [e1] at B1
                      have HA := hide (show askS l q m = false by simp only [askS, e1]; rfl)
                      clear e1
                      go_wp2
                      go_roundw
                      case rel =>
                        refine ⟨m + 1, by omega, by go_num, by (repeat (first | exact Ext.refl _ | assumption | apply Ext.alloc | apply Ext.drew | apply Ext.drewN | (refine Ext.trans ?_ (by assumption)))), fun j h1 h2 h3 => ?_⟩
                        by_cases e : j = m
                        · subst e; rw [HA.out] at h3; cases h3
                        · exact HM.out j (by omega) h2 h3
                      case measure => simp [intOf]; omega
                  · have HROW := hide (rowS_all HT.out (fun j h1 h2 => HM.out j (by omega) h1 h2))
                    go_wp2
                    go_roundw
                    case rel =>
                      refine ⟨q + 1, by omega, by go_num, by (repeat (first | exact Ext.refl _ | assumption | apply Ext.alloc | apply Ext.drew | apply Ext.drewN | (refine Ext.trans ?_ (by assumption)))), fun j hj => ?_⟩
                      by_cases e : j = q
                      · subst e; exact HROW.out
                      · exact HR.out j (by omega)
                    case measure => simp [intOf]; omega
        · have HEND := hide (roomB_endS hs HA.out (fun i hi => HR.out i (by omega)))
          go_wp2_with (go_at_call 58; refine (sArea_any _ _ _ _ (hp.ext (by (repeat (first | exact Ext.refl _ | assumption | apply Ext.alloc | apply Ext.drew | apply Ext.drewN | (refine Ext.trans ?_ (by assumption)))))) hfine).mono ?_; rintro e w3 ⟨rfl, hb3⟩)
          go_ret
          exact ⟨by rw [HEND.out]; rfl, by (repeat (first | exact Ext.refl _ | assumption | apply Ext.alloc | apply Ext.drew | apply Ext.drewN | (refine Ext.trans ?_ (by assumption))))⟩

end Go.Proofs.Ytanagdlikoinaaa
