/-
  Contracts: where a point lies in a polygon; PlaceIn, IsIn.
-/
import Derived.Test.YtnalongggkmllaaPlaceL
import Derived.Test.YtnalongggkmllaaCor
namespace Go.Proofs.Ytnalongggkmllaa
open Go.RowKit


set_option maxRecDepth 100000 in
set_option maxHeartbeats 4000000 in
theorem place_any (A : Option Addr) (l : List (Int × Int)) (c : Nat) (px py : Int) (w : World) (hp : RPts w A l) (hn : l.length ≤ 1048576) :
    Calls Try.prog 61 #[.slice A l.length c, .agg #[.int .i64 px, .int .i64 py]] w fun e w' => e = .returned (.int .i64 (placeV l px py)) ∧ Ext w w' := by
  have HB : Hid (∀ w', Ext (w.alloc (.cells #[.int .i64 px, .int .i64 py] 41)) w' → w'.cell? ⟨w.heap.size, 0, none⟩ = some (.int .i64 px) ∧ w'.cell? ⟨w.heap.size, 1, none⟩ = some (.int .i64 py) ∧ w.heap.size < w'.heap.size) := fun w' hx => by
    and_intros <;> (first | (have hz := hx.size; simp at hz; omega) | ((first | rw [hx.cells _ _ (by first | (simp; done) | (simp; omega))] | rw [hx.frozens _ _ (by first | (simp; done) | (simp; omega))]); (first | (simp [go_sem]; done) | (simp [go_sem, World.cell?_alloc_past]; done) | (simp [go_sem, World.frozen?]; done))))
  go_enter Try.func61, Try.ntmps61
  go_wp2
  go_loopw [5, 11] (fun b i wr => ∃ k : Nat, k ≤ l.length ∧ i = .int .i64 k ∧ b = .bool (parTo (crI l px py) k) ∧ Ext (w.alloc (.cells #[.int .i64 px, .int .i64 py] 41)) wr ∧ Hid (∀ j, j < k → onE l px py j = false)) (fun _ i _ => l.length - (intOf i).toNat)
  case atStart => exact ⟨0, Nat.zero_le _, rfl, rfl, by (repeat (first | exact Ext.refl _ | assumption | apply Ext.alloc | apply Ext.drew | apply Ext.drewN | (refine Ext.trans ?_ (by assumption)))), fun j hj => absurd hj (by omega)⟩
  case round =>
    obtain ⟨k, hk, rfl, rfl, hbl, HN⟩ := hrel
    obtain ⟨wq, rfl⟩ : ∃ wq : World, wq = wr := ⟨_, rfl⟩
    have fb0 := HB.out wq hbl
    by_cases hlt : k < l.length
    · have hm1 : (k + 1) % l.length < l.length := Nat.mod_lt _ (by omega)
      have hpr : RPts wq A l := hp.ext (by (repeat (first | exact Ext.refl _ | assumption | apply Ext.alloc | apply Ext.drew | apply Ext.drewN | (refine Ext.trans ?_ (by assumption)))))
      obtain ⟨b, off, rfl⟩ := hpr.some_ (by omega)
      obtain ⟨hz, hx0, hy0⟩ := hpr.cell hlt
      obtain ⟨_, hx1, hy1⟩ := hpr.cell hm1
      have hne : l ≠ [] := fun e => by rw [e] at hlt; simp at hlt
      obtain ⟨q1, q2, q3, q4, q5⟩ := idx_facts ((k : Int) + 1) (k + 1) l.length (by omega) (by omega) (by omega)
      have HQ : Hid (∀ w', Ext ((wq.alloc (.cells #[.int .i64 (gx l k), .int .i64 (gy l k)] 41)).alloc (.cells #[.int .i64 (gx l ((k + 1) % l.length)), .int .i64 (gy l ((k + 1) % l.length))] 41)) w' → w'.cell? ⟨wq.heap.size, 0, none⟩ = some (.int .i64 (gx l k)) ∧ w'.cell? ⟨wq.heap.size, 1, none⟩ = some (.int .i64 (gy l k)) ∧ wq.heap.size < w'.heap.size ∧ w'.cell? ⟨wq.heap.size + 1, 0, none⟩ = some (.int .i64 (gx l ((k + 1) % l.length))) ∧ w'.cell? ⟨wq.heap.size + 1, 1, none⟩ = some (.int .i64 (gy l ((k + 1) % l.length))) ∧ wq.heap.size + 1 < w'.heap.size) := fun w' hx => by
        and_intros <;> (first | (have hz := hx.size; simp at hz; omega) | ((first | rw [hx.cells _ _ (by first | (simp; done) | (simp; omega))] | rw [hx.frozens _ _ (by first | (simp; done) | (simp; omega))]); (first | (simp [go_sem]; done) | (simp [go_sem, World.cell?_alloc_past]; done) | (simp [go_sem, World.frozen?]; done))))
      cases ho : onE l px py k
      · have HO := hide ho
        unfold onE at ho
        go_wp2_with (go_at_call 73; refine (on_any _ _ _ _ _ _ _).mono ?_; rintro e w1 ⟨rfl, hb1⟩; have fb := HB.out w1 (by (repeat (first | exact Ext.refl _ | assumption | apply Ext.alloc | apply Ext.drew | apply Ext.drewN | (refine Ext.trans ?_ (by assumption))))); have fq := HQ.out w1 (by (repeat (first | exact Ext.refl _ | assumption | apply Ext.alloc | apply Ext.drew | apply Ext.drewN | (refine Ext.trans ?_ (by assumption))))))
        clear fb0 hx0 hy0 hx1 hy1 q1 q2 q3 q4 q5 ho
        cases e1 : decide (py < gy l k)
        · cases e2 : decide (py < gy l ((k + 1) % l.length))
          · have HC := hide (show parTo (crI l px py) (k + 1) = parTo (crI l px py) k by rw [parTo_succ]; unfold crI ; rw [e1, e2]; rfl)
            refine wp_flow (by kernel_rfl) (by kernel_rfl) (fun u => ⟨#[_, _, _, _, _, _, _, _, _, _, _, _, _, _, _, _, _, _, _, _, _, _, _, _, _, _, _, _, u 0, u 1, u 2, u 3, u 4, u 5, u 6, u 7, u 8, u 9, u 10, u 11, u 12, u 13, u 14, u 15, u 16, u 17, u 18, u 19, u 20, u 21, u 22, u 23, _, _, _, _], _⟩) (fun i => List.getD [_, _, _, _, _, _, _, _, _, _, _, _, _, _, _, _, _, _, _, _, _, _, _, _] i undef) [is ?v26_0, is ?v26_1, is ?v26_2, is ?v26_3, is ?v26_4, is ?v26_5, is ?v26_6, is ?v26_7, is ?v26_8, is ?v26_9, is ?v26_10, is ?v26_11, is ?v26_12, is ?v26_13, is ?v26_14, is ?v26_15, is ?v26_16, is ?v26_17, is ?v26_18, is ?v26_19, is ?v26_20, is ?v26_21, is ?v26_22, is ?v26_23] (fun w' => w'.cell? ⟨w.heap.size, 0, none⟩ = some (.int .i64 px) ∧ w'.cell? ⟨w.heap.size, 1, none⟩ = some (.int .i64 py) ∧ w.heap.size < w'.heap.size ∧ w'.cell? ⟨wq.heap.size, 0, none⟩ = some (.int .i64 (gx l k)) ∧ w'.cell? ⟨wq.heap.size, 1, none⟩ = some (.int .i64 (gy l k)) ∧ wq.heap.size < w'.heap.size ∧ w'.cell? ⟨wq.heap.size + 1, 0, none⟩ = some (.int .i64 (gx l ((k + 1) % l.length))) ∧ w'.cell? ⟨wq.heap.size + 1, 1, none⟩ = some (.int .i64 (gy l ((k + 1) % l.length))) ∧ wq.heap.size + 1 < w'.heap.size) _ rfl ?hC26 ?hs26 ?hV26 ?fin26
            case hC26 => exact fun w' hx => (by have hq : Ext _ w' := hx; have hf0 := HB.out w' (by (repeat (first | exact Ext.refl _ | assumption | apply Ext.alloc | apply Ext.drew | apply Ext.drewN | (refine Ext.trans ?_ (by assumption))))); have hf1 := HQ.out w' (by (repeat (first | exact Ext.refl _ | assumption | apply Ext.alloc | apply Ext.drew | apply Ext.drewN | (refine Ext.trans ?_ (by assumption))))); and_intros <;> first | exact hf0 | exact hf0.1 | exact hf0.2.1 | exact hf0.2.2.1 | exact hf0.2.2.2.1 | exact hf0.2.2.2.2.1 | exact hf0.2.2.2.2.2.1 | exact hf0.2.2.2.2.2.2.1 | exact hf0.2.2.2.2.2.2.2.1 | exact hf0.2.2.2.2.2.2.2.2.1 | exact hf0.2.2.2.2.2.2.2.2.2.1 | exact hf0.2.2.2.2.2.2.2.2.2.2.1 | exact hf0.2.2.2.2.2.2.2.2.2.2.2.1 | exact hf0.2.2.2.2.2.2.2.2.2.2.2.2.1 | exact hf0.2.2.2.2.2.2.2.2.2.2.2.2.2.1 | exact hf0.2 | exact hf0.2.2 | exact hf0.2.2.2 | exact hf0.2.2.2.2 | exact hf0.2.2.2.2.2 | exact hf0.2.2.2.2.2.2 | exact hf0.2.2.2.2.2.2.2 | exact hf0.2.2.2.2.2.2.2.2 | exact hf0.2.2.2.2.2.2.2.2.2 | exact hf0.2.2.2.2.2.2.2.2.2.2 | exact hf0.2.2.2.2.2.2.2.2.2.2.2 | exact hf0.2.2.2.2.2.2.2.2.2.2.2.2 | exact hf0.2.2.2.2.2.2.2.2.2.2.2.2.2 | exact hf1 | exact hf1.1 | exact hf1.2.1 | exact hf1.2.2.1 | exact hf1.2.2.2.1 | exact hf1.2.2.2.2.1 | exact hf1.2.2.2.2.2.1 | exact hf1.2.2.2.2.2.2.1 | exact hf1.2.2.2.2.2.2.2.1 | exact hf1.2.2.2.2.2.2.2.2.1 | exact hf1.2.2.2.2.2.2.2.2.2.1 | exact hf1.2.2.2.2.2.2.2.2.2.2.1 | exact hf1.2.2.2.2.2.2.2.2.2.2.2.1 | exact hf1.2.2.2.2.2.2.2.2.2.2.2.2.1 | exact hf1.2.2.2.2.2.2.2.2.2.2.2.2.2.1 | exact hf1.2 | exact hf1.2.2 | exact hf1.2.2.2 | exact hf1.2.2.2.2 | exact hf1.2.2.2.2.2 | exact hf1.2.2.2.2.2.2 | exact hf1.2.2.2.2.2.2.2 | exact hf1.2.2.2.2.2.2.2.2 | exact hf1.2.2.2.2.2.2.2.2.2 | exact hf1.2.2.2.2.2.2.2.2.2.2 | exact hf1.2.2.2.2.2.2.2.2.2.2.2 | exact hf1.2.2.2.2.2.2.2.2.2.2.2.2 | exact hf1.2.2.2.2.2.2.2.2.2.2.2.2.2)
            case hs26 =>
              repeat' (first
                | exact FSteps.nil
                | refine FSteps.cons ?_ ?_
                | (refine FStep.off_ _ _ _ rfl rfl ?_ (fun _ => rfl) ?_; (focus (intro u w hd; simp [vOf, is, Region.binds] at hd; simp [hd])); (intro w'; exact rfl); done)
                | ((first
                    | refine FStep.plain rfl ?_
                    | (refine FStep.on_ _ _ _ rfl rfl ?_ ?_; (focus (intro u w hd; simp [vOf, is, Region.binds] at hd; simp [hd]))))
                   intro u w hW hC hd K hK
                   (try simp [vOf, is, Region.binds] at hd)
                   simp only [upd, Nat.reduceEqDiff, if_true, if_false] at hK
                   (try simp only [hd] at hK)
                   go_simp
                   (first
                     | (refine hK _ _ ?_ ?_; (first | exact rfl); (repeat (first | exact Ext.refl _ | assumption | apply Ext.alloc | apply Ext.drew | apply Ext.drewN | (refine Ext.trans ?_ (by assumption)))))
                     | (go_at_call 58; refine (turn_any _ _ _ _ _ _ _).mono ?_; rintro e w1 ⟨rfl, hb⟩; (try go_simp); refine hK _ _ ?_ ?_; (first | exact rfl); (repeat (first | exact Ext.refl _ | assumption | apply Ext.alloc | apply Ext.drew | apply Ext.drewN | (refine Ext.trans ?_ (by assumption))))))))
            case hV26 => (simp only [List.forall_mem_cons]; simp [stable_is])
            case fin26 =>
              intro u w2 hW2 hC2 hd
              simp only [AllV, is] at hd
              simp only [hd]
              clear hd
              clear hC2 fb fq
              go_wp2
              go_roundw
              case rel => exact ⟨k + 1, by omega, by go_num, by first | (rw [HC.out]; done) | (rw [HC.out]; rfl), by (repeat (first | exact Ext.refl _ | assumption | apply Ext.alloc | apply Ext.drew | apply Ext.drewN | (refine Ext.trans ?_ (by assumption)))), fun j hj => by by_cases e : j = k; (subst e; exact HO.out); exact HN.out j (by omega)⟩
              case measure => simp [intOf]; omega
          · have e4 : decide (gy l k < gy l ((k + 1) % l.length)) = true := by simp at e1 e2 ⊢; omega
            cases e3 : decide (0 < turnW (gx l k) (gy l k) (gx l ((k + 1) % l.length)) (gy l ((k + 1) % l.length)) px py)
            · have HC := hide (show parTo (crI l px py) (k + 1) = parTo (crI l px py) k by rw [parTo_succ]; unfold crI turnE; rw [e1, e2, e3, e4]; rfl)
              refine wp_flow (by kernel_rfl) (by kernel_rfl) (fun u => ⟨#[_, _, _, _, _, _, _, _, _, _, _, _, _, _, _, _, _, _, _, _, _, _, _, _, _, _, _, _, u 0, u 1, u 2, u 3, u 4, u 5, u 6, u 7, u 8, u 9, u 10, u 11, u 12, u 13, u 14, u 15, u 16, u 17, u 18, u 19, u 20, u 21, u 22, u 23, _, _, _, _], _⟩) (fun i => List.getD [_, _, _, _, _, _, _, _, _, _, _, _, _, _, _, _, _, _, _, _, _, _, _, _] i undef) [is ?v27_0, is ?v27_1, is ?v27_2, is ?v27_3, is ?v27_4, is ?v27_5, is ?v27_6, is ?v27_7, is ?v27_8, is ?v27_9, is ?v27_10, is ?v27_11, is ?v27_12, is ?v27_13, is ?v27_14, is ?v27_15, is ?v27_16, is ?v27_17, is ?v27_18, is ?v27_19, is ?v27_20, is ?v27_21, is ?v27_22, is ?v27_23] (fun w' => w'.cell? ⟨w.heap.size, 0, none⟩ = some (.int .i64 px) ∧ w'.cell? ⟨w.heap.size, 1, none⟩ = some (.int .i64 py) ∧ w.heap.size < w'.heap.size ∧ w'.cell? ⟨wq.heap.size, 0, none⟩ = some (.int .i64 (gx l k)) ∧ w'.cell? ⟨wq.heap.size, 1, none⟩ = some (.int .i64 (gy l k)) ∧ wq.heap.size < w'.heap.size ∧ w'.cell? ⟨wq.heap.size + 1, 0, none⟩ = some (.int .i64 (gx l ((k + 1) % l.length))) ∧ w'.cell? ⟨wq.heap.size + 1, 1, none⟩ = some (.int .i64 (gy l ((k + 1) % l.length))) ∧ wq.heap.size + 1 < w'.heap.size) _ rfl ?hC27 ?hs27 ?hV27 ?fin27
              case hC27 => exact fun w' hx => (by have hq : Ext _ w' := hx; have hf0 := HB.out w' (by (repeat (first | exact Ext.refl _ | assumption | apply Ext.alloc | apply Ext.drew | apply Ext.drewN | (refine Ext.trans ?_ (by assumption))))); have hf1 := HQ.out w' (by (repeat (first | exact Ext.refl _ | assumption | apply Ext.alloc | apply Ext.drew | apply Ext.drewN | (refine Ext.trans ?_ (by assumption))))); and_intros <;> first | exact hf0 | exact hf0.1 | exact hf0.2.1 | exact hf0.2.2.1 | exact hf0.2.2.2.1 | exact hf0.2.2.2.2.1 | exact hf0.2.2.2.2.2.1 | exact hf0.2.2.2.2.2.2.1 | exact hf0.2.2.2.2.2.2.2.1 | exact hf0.2.2.2.2.2.2.2.2.1 | exact hf0.2.2.2.2.2.2.2.2.2.1 | exact hf0.2.2.2.2.2.2.2.2.2.2.1 | exact hf0.2.2.2.2.2.2.2.2.2.2.2.1 | exact hf0.2.2.2.2.2.2.2.2.2.2.2.2.1 | exact hf0.2.2.2.2.2.2.2.2.2.2.2.2.2.1 | exact hf0.2 | exact hf0.2.2 | exact hf0.2.2.2 | exact hf0.2.2.2.2 | exact hf0.2.2.2.2.2 | exact hf0.2.2.2.2.2.2 | exact hf0.2.2.2.2.2.2.2 | exact hf0.2.2.2.2.2.2.2.2 | exact hf0.2.2.2.2.2.2.2.2.2 | exact hf0.2.2.2.2.2.2.2.2.2.2 | exact hf0.2.2.2.2.2.2.2.2.2.2.2 | exact hf0.2.2.2.2.2.2.2.2.2.2.2.2 | exact hf0.2.2.2.2.2.2.2.2.2.2.2.2.2 | exact hf1 | exact hf1.1 | exact hf1.2.1 | exact hf1.2.2.1 | exact hf1.2.2.2.1 | exact hf1.2.2.2.2.1 | exact hf1.2.2.2.2.2.1 | exact hf1.2.2.2.2.2.2.1 | exact hf1.2.2.2.2.2.2.2.1 | exact hf1.2.2.2.2.2.2.2.2.1 | exact hf1.2.2.2.2.2.2.2.2.2.1 | exact hf1.2.2.2.2.2.2.2.2.2.2.1 | exact hf1.2.2.2.2.2.2.2.2.2.2.2.1 | exact hf1.2.2.2.2.2.2.2.2.2.2.2.2.1 | exact hf1.2.2.2.2.2.2.2.2.2.2.2.2.2.1 | exact hf1.2 | exact hf1.2.2 | exact hf1.2.2.2 | exact hf1.2.2.2.2 | exact hf1.2.2.2.2.2 | exact hf1.2.2.2.2.2.2 | exact hf1.2.2.2.2.2.2.2 | exact hf1.2.2.2.2.2.2.2.2 | exact hf1.2.2.2.2.2.2.2.2.2 | exact hf1.2.2.2.2.2.2.2.2.2.2 | exact hf1.2.2.2.2.2.2.2.2.2.2.2 | exact hf1.2.2.2.2.2.2.2.2.2.2.2.2 | exact hf1.2.2.2.2.2.2.2.2.2.2.2.2.2)
              case hs27 =>
                repeat' (first
                  | exact FSteps.nil
                  | refine FSteps.cons ?_ ?_
                  | (refine FStep.off_ _ _ _ rfl rfl ?_ (fun _ => rfl) ?_; (focus (intro u w hd; simp [vOf, is, Region.binds] at hd; simp [hd])); (intro w'; exact rfl); done)
                  | ((first
                      | refine FStep.plain rfl ?_
                      | (refine FStep.on_ _ _ _ rfl rfl ?_ ?_; (focus (intro u w hd; simp [vOf, is, Region.binds] at hd; simp [hd]))))
                     intro u w hW hC hd K hK
                     (try simp [vOf, is, Region.binds] at hd)
                     simp only [upd, Nat.reduceEqDiff, if_true, if_false] at hK
                     (try simp only [hd] at hK)
                     go_simp
                     (first
                       | (refine hK _ _ ?_ ?_; (first | exact rfl); (repeat (first | exact Ext.refl _ | assumption | apply Ext.alloc | apply Ext.drew | apply Ext.drewN | (refine Ext.trans ?_ (by assumption)))))
                       | (go_at_call 58; refine (turn_any _ _ _ _ _ _ _).mono ?_; rintro e w1 ⟨rfl, hb⟩; (try go_simp); refine hK _ _ ?_ ?_; (first | exact rfl); (repeat (first | exact Ext.refl _ | assumption | apply Ext.alloc | apply Ext.drew | apply Ext.drewN | (refine Ext.trans ?_ (by assumption))))))))
              case hV27 => (simp only [List.forall_mem_cons]; simp [stable_is])
              case fin27 =>
                intro u w2 hW2 hC2 hd
                simp only [AllV, is] at hd
                simp only [hd]
                clear hd
                clear hC2 fb fq
                go_wp2
                go_roundw
                case rel => exact ⟨k + 1, by omega, by go_num, by first | (rw [HC.out]; done) | (rw [HC.out]; rfl), by (repeat (first | exact Ext.refl _ | assumption | apply Ext.alloc | apply Ext.drew | apply Ext.drewN | (refine Ext.trans ?_ (by assumption)))), fun j hj => by by_cases e : j = k; (subst e; exact HO.out); exact HN.out j (by omega)⟩
                case measure => simp [intOf]; omega
            · have HC := hide (show parTo (crI l px py) (k + 1) = !parTo (crI l px py) k by rw [parTo_succ]; unfold crI turnE; rw [e1, e2, e3, e4]; rfl)
              refine wp_flow (by kernel_rfl) (by kernel_rfl) (fun u => ⟨#[_, _, _, _, _, _, _, _, _, _, _, _, _, _, _, _, _, _, _, _, _, _, _, _, _, _, _, _, u 0, u 1, u 2, u 3, u 4, u 5, u 6, u 7, u 8, u 9, u 10, u 11, u 12, u 13, u 14, u 15, u 16, u 17, u 18, u 19, u 20, u 21, u 22, u 23, _, _, _, _], _⟩) (fun i => List.getD [_, _, _, _, _, _, _, _, _, _, _, _, _, _, _, _, _, _, _, _, _, _, _, _] i undef) [is ?v28_0, is ?v28_1, is ?v28_2, is ?v28_3, is ?v28_4, is ?v28_5, is ?v28_6, is ?v28_7, is ?v28_8, is ?v28_9, is ?v28_10, is ?v28_11, is ?v28_12, is ?v28_13, is ?v28_14, is ?v28_15, is ?v28_16, is ?v28_17, is ?v28_18, is ?v28_19, is ?v28_20, is ?v28_21, is ?v28_22, is ?v28_23] (fun w' => w'.cell? ⟨w.heap.size, 0, none⟩ = some (.int .i64 px) ∧ w'.cell? ⟨w.heap.size, 1, none⟩ = some (.int .i64 py) ∧ w.heap.size < w'.heap.size ∧ w'.cell? ⟨wq.heap.size, 0, none⟩ = some (.int .i64 (gx l k)) ∧ w'.cell? ⟨wq.heap.size, 1, none⟩ = some (.int .i64 (gy l k)) ∧ wq.heap.size < w'.heap.size ∧ w'.cell? ⟨wq.heap.size + 1, 0, none⟩ = some (.int .i64 (gx l ((k + 1) % l.length))) ∧ w'.cell? ⟨wq.heap.size + 1, 1, none⟩ = some (.int .i64 (gy l ((k + 1) % l.length))) ∧ wq.heap.size + 1 < w'.heap.size) _ rfl ?hC28 ?hs28 ?hV28 ?fin28
              case hC28 => exact fun w' hx => (by have hq : Ext _ w' := hx; have hf0 := HB.out w' (by (repeat (first | exact Ext.refl _ | assumption | apply Ext.alloc | apply Ext.drew | apply Ext.drewN | (refine Ext.trans ?_ (by assumption))))); have hf1 := HQ.out w' (by (repeat (first | exact Ext.refl _ | assumption | apply Ext.alloc | apply Ext.drew | apply Ext.drewN | (refine Ext.trans ?_ (by assumption))))); and_intros <;> first | exact hf0 | exact hf0.1 | exact hf0.2.1 | exact hf0.2.2.1 | exact hf0.2.2.2.1 | exact hf0.2.2.2.2.1 | exact hf0.2.2.2.2.2.1 | exact hf0.2.2.2.2.2.2.1 | exact hf0.2.2.2.2.2.2.2.1 | exact hf0.2.2.2.2.2.2.2.2.1 | exact hf0.2.2.2.2.2.2.2.2.2.1 | exact hf0.2.2.2.2.2.2.2.2.2.2.1 | exact hf0.2.2.2.2.2.2.2.2.2.2.2.1 | exact hf0.2.2.2.2.2.2.2.2.2.2.2.2.1 | exact hf0.2.2.2.2.2.2.2.2.2.2.2.2.2.1 | exact hf0.2 | exact hf0.2.2 | exact hf0.2.2.2 | exact hf0.2.2.2.2 | exact hf0.2.2.2.2.2 | exact hf0.2.2.2.2.2.2 | exact hf0.2.2.2.2.2.2.2 | exact hf0.2.2.2.2.2.2.2.2 | exact hf0.2.2.2.2.2.2.2.2.2 | exact hf0.2.2.2.2.2.2.2.2.2.2 | exact hf0.2.2.2.2.2.2.2.2.2.2.2 | exact hf0.2.2.2.2.2.2.2.2.2.2.2.2 | exact hf0.2.2.2.2.2.2.2.2.2.2.2.2.2 | exact hf1 | exact hf1.1 | exact hf1.2.1 | exact hf1.2.2.1 | exact hf1.2.2.2.1 | exact hf1.2.2.2.2.1 | exact hf1.2.2.2.2.2.1 | exact hf1.2.2.2.2.2.2.1 | exact hf1.2.2.2.2.2.2.2.1 | exact hf1.2.2.2.2.2.2.2.2.1 | exact hf1.2.2.2.2.2.2.2.2.2.1 | exact hf1.2.2.2.2.2.2.2.2.2.2.1 | exact hf1.2.2.2.2.2.2.2.2.2.2.2.1 | exact hf1.2.2.2.2.2.2.2.2.2.2.2.2.1 | exact hf1.2.2.2.2.2.2.2.2.2.2.2.2.2.1 | exact hf1.2 | exact hf1.2.2 | exact hf1.2.2.2 | exact hf1.2.2.2.2 | exact hf1.2.2.2.2.2 | exact hf1.2.2.2.2.2.2 | exact hf1.2.2.2.2.2.2.2 | exact hf1.2.2.2.2.2.2.2.2 | exact hf1.2.2.2.2.2.2.2.2.2 | exact hf1.2.2.2.2.2.2.2.2.2.2 | exact hf1.2.2.2.2.2.2.2.2.2.2.2 | exact hf1.2.2.2.2.2.2.2.2.2.2.2.2 | exact hf1.2.2.2.2.2.2.2.2.2.2.2.2.2)
              case hs28 =>
                repeat' (first
                  | exact FSteps.nil
                  | refine FSteps.cons ?_ ?_
                  | (refine FStep.off_ _ _ _ rfl rfl ?_ (fun _ => rfl) ?_; (focus (intro u w hd; simp [vOf, is, Region.binds] at hd; simp [hd])); (intro w'; exact rfl); done)
                  | ((first
                      | refine FStep.plain rfl ?_
                      | (refine FStep.on_ _ _ _ rfl rfl ?_ ?_; (focus (intro u w hd; simp [vOf, is, Region.binds] at hd; simp [hd]))))
                     intro u w hW hC hd K hK
                     (try simp [vOf, is, Region.binds] at hd)
                     simp only [upd, Nat.reduceEqDiff, if_true, if_false] at hK
                     (try simp only [hd] at hK)
                     go_simp
                     (first
                       | (refine hK _ _ ?_ ?_; (first | exact rfl); (repeat (first | exact Ext.refl _ | assumption | apply Ext.alloc | apply Ext.drew | apply Ext.drewN | (refine Ext.trans ?_ (by assumption)))))
                       | (go_at_call 58; refine (turn_any _ _ _ _ _ _ _).mono ?_; rintro e w1 ⟨rfl, hb⟩; (try go_simp); refine hK _ _ ?_ ?_; (first | exact rfl); (repeat (first | exact Ext.refl _ | assumption | apply Ext.alloc | apply Ext.drew | apply Ext.drewN | (refine Ext.trans ?_ (by assumption))))))))
              case hV28 => (simp only [List.forall_mem_cons]; simp [stable_is])
              case fin28 =>
                intro u w2 hW2 hC2 hd
                simp only [AllV, is] at hd
                simp only [hd]
                clear hd
                clear hC2 fb fq
                go_wp2
                go_roundw
                case rel => exact ⟨k + 1, by omega, by go_num, by first | (rw [HC.out]; done) | (rw [HC.out]; rfl), by (repeat (first | exact Ext.refl _ | assumption | apply Ext.alloc | apply Ext.drew | apply Ext.drewN | (refine Ext.trans ?_ (by assumption)))), fun j hj => by by_cases e : j = k; (subst e; exact HO.out); exact HN.out j (by omega)⟩
                case measure => simp [intOf]; omega
        · cases e2 : decide (py < gy l ((k + 1) % l.length))
          · have e4 : decide (gy l k < gy l ((k + 1) % l.length)) = false := by simp at e1 e2 ⊢; omega
            cases e3 : decide (0 < turnW (gx l k) (gy l k) (gx l ((k + 1) % l.length)) (gy l ((k + 1) % l.length)) px py)
            · have HC := hide (show parTo (crI l px py) (k + 1) = !parTo (crI l px py) k by rw [parTo_succ]; unfold crI turnE; rw [e1, e2, e3, e4]; rfl)
              refine wp_flow (by kernel_rfl) (by kernel_rfl) (fun u => ⟨#[_, _, _, _, _, _, _, _, _, _, _, _, _, _, _, _, _, _, _, _, _, _, _, _, _, _, _, _, u 0, u 1, u 2, u 3, u 4, u 5, u 6, u 7, u 8, u 9, u 10, u 11, u 12, u 13, u 14, u 15, u 16, u 17, u 18, u 19, u 20, u 21, u 22, u 23, _, _, _, _], _⟩) (fun i => List.getD [_, _, _, _, _, _, _, _, _, _, _, _, _, _, _, _, _, _, _, _, _, _, _, _] i undef) [is ?v29_0, is ?v29_1, is ?v29_2, is ?v29_3, is ?v29_4, is ?v29_5, is ?v29_6, is ?v29_7, is ?v29_8, is ?v29_9, is ?v29_10, is ?v29_11, is ?v29_12, is ?v29_13, is ?v29_14, is ?v29_15, is ?v29_16, is ?v29_17, is ?v29_18, is ?v29_19, is ?v29_20, is ?v29_21, is ?v29_22, is ?v29_23] (fun w' => w'.cell? ⟨w.heap.size, 0, none⟩ = some (.int .i64 px) ∧ w'.cell? ⟨w.heap.size, 1, none⟩ = some (.int .i64 py) ∧ w.heap.size < w'.heap.size ∧ w'.cell? ⟨wq.heap.size, 0, none⟩ = some (.int .i64 (gx l k)) ∧ w'.cell? ⟨wq.heap.size, 1, none⟩ = some (.int .i64 (gy l k)) ∧ wq.heap.size < w'.heap.size ∧ w'.cell? ⟨wq.heap.size + 1, 0, none⟩ = some (.int .i64 (gx l ((k + 1) % l.length))) ∧ w'.cell? ⟨wq.heap.size + 1, 1, none⟩ = some (.int .i64 (gy l ((k + 1) % l.length))) ∧ wq.heap.size + 1 < w'.heap.size) _ rfl ?hC29 ?hs29 ?hV29 ?fin29
              case hC29 => exact fun w' hx => (by have hq : Ext _ w' := hx; have hf0 := HB.out w' (by (repeat (first | exact Ext.refl _ | assumption | apply Ext.alloc | apply Ext.drew | apply Ext.drewN | (refine Ext.trans ?_ (by assumption))))); have hf1 := HQ.out w' (by (repeat (first | exact Ext.refl _ | assumption | apply Ext.alloc | apply Ext.drew | apply Ext.drewN | (refine Ext.trans ?_ (by assumption))))); and_intros <;> first | exact hf0 | exact hf0.1 | exact hf0.2.1 | exact hf0.2.2.1 | exact hf0.2.2.2.1 | exact hf0.2.2.2.2.1 | exact hf0.2.2.2.2.2.1 | exact hf0.2.2.2.2.2.2.1 | exact hf0.2.2.2.2.2.2.2.1 | exact hf0.2.2.2.2.2.2.2.2.1 | exact hf0.2.2.2.2.2.2.2.2.2.1 | exact hf0.2.2.2.2.2.2.2.2.2.2.1 | exact hf0.2.2.2.2.2.2.2.2.2.2.2.1 | exact hf0.2.2.2.2.2.2.2.2.2.2.2.2.1 | exact hf0.2.2.2.2.2.2.2.2.2.2.2.2.2.1 | exact hf0.2 | exact hf0.2.2 | exact hf0.2.2.2 | exact hf0.2.2.2.2 | exact hf0.2.2.2.2.2 | exact hf0.2.2.2.2.2.2 | exact hf0.2.2.2.2.2.2.2 | exact hf0.2.2.2.2.2.2.2.2 | exact hf0.2.2.2.2.2.2.2.2.2 | exact hf0.2.2.2.2.2.2.2.2.2.2 | exact hf0.2.2.2.2.2.2.2.2.2.2.2 | exact hf0.2.2.2.2.2.2.2.2.2.2.2.2 | exact hf0.2.2.2.2.2.2.2.2.2.2.2.2.2 | exact hf1 | exact hf1.1 | exact hf1.2.1 | exact hf1.2.2.1 | exact hf1.2.2.2.1 | exact hf1.2.2.2.2.1 | exact hf1.2.2.2.2.2.1 | exact hf1.2.2.2.2.2.2.1 | exact hf1.2.2.2.2.2.2.2.1 | exact hf1.2.2.2.2.2.2.2.2.1 | exact hf1.2.2.2.2.2.2.2.2.2.1 | exact hf1.2.2.2.2.2.2.2.2.2.2.1 | exact hf1.2.2.2.2.2.2.2.2.2.2.2.1 | exact hf1.2.2.2.2.2.2.2.2.2.2.2.2.1 | exact hf1.2.2.2.2.2.2.2.2.2.2.2.2.2.1 | exact hf1.2 | exact hf1.2.2 | exact hf1.2.2.2 | exact hf1.2.2.2.2 | exact hf1.2.2.2.2.2 | exact hf1.2.2.2.2.2.2 | exact hf1.2.2.2.2.2.2.2 | exact hf1.2.2.2.2.2.2.2.2 | exact hf1.2.2.2.2.2.2.2.2.2 | exact hf1.2.2.2.2.2.2.2.2.2.2 | exact hf1.2.2.2.2.2.2.2.2.2.2.2 | exact hf1.2.2.2.2.2.2.2.2.2.2.2.2 | exact hf1.2.2.2.2.2.2.2.2.2.2.2.2.2)
              case hs29 =>
                repeat' (first
                  | exact FSteps.nil
                  | refine FSteps.cons ?_ ?_
                  | (refine FStep.off_ _ _ _ rfl rfl ?_ (fun _ => rfl) ?_; (focus (intro u w hd; simp [vOf, is, Region.binds] at hd; simp [hd])); (intro w'; exact rfl); done)
                  | ((first
                      | refine FStep.plain rfl ?_
                      | (refine FStep.on_ _ _ _ rfl rfl ?_ ?_; (focus (intro u w hd; simp [vOf, is, Region.binds] at hd; simp [hd]))))
                     intro u w hW hC hd K hK
                     (try simp [vOf, is, Region.binds] at hd)
                     simp only [upd, Nat.reduceEqDiff, if_true, if_false] at hK
                     (try simp only [hd] at hK)
                     go_simp
                     (first
                       | (refine hK _ _ ?_ ?_; (first | exact rfl); (repeat (first | exact Ext.refl _ | assumption | apply Ext.alloc | apply Ext.drew | apply Ext.drewN | (refine Ext.trans ?_ (by assumption)))))
                       | (go_at_call 58; refine (turn_any _ _ _ _ _ _ _).mono ?_; rintro e w1 ⟨rfl, hb⟩; (try go_simp); refine hK _ _ ?_ ?_; (first | exact rfl); (repeat (first | exact Ext.refl _ | assumption | apply Ext.alloc | apply Ext.drew | apply Ext.drewN | (refine Ext.trans ?_ (by assumption))))))))
              case hV29 => (simp only [List.forall_mem_cons]; simp [stable_is])
              case fin29 =>
                intro u w2 hW2 hC2 hd
                simp only [AllV, is] at hd
                simp only [hd]
                clear hd
                clear hC2 fb fq
                go_wp2
                go_roundw
                case rel => exact ⟨k + 1, by omega, by go_num, by first | (rw [HC.out]; done) | (rw [HC.out]; rfl), by (repeat (first | exact Ext.refl _ | assumption | apply Ext.alloc | apply Ext.drew | apply Ext.drewN | (refine Ext.trans ?_ (by assumption)))), fun j hj => by by_cases e : j = k; (subst e; exact HO.out); exact HN.out j (by omega)⟩
                case measure => simp [intOf]; omega
            · have HC := hide (show parTo (crI l px py) (k + 1) = parTo (crI l px py) k by rw [parTo_succ]; unfold crI turnE; rw [e1, e2, e3, e4]; rfl)
              refine wp_flow (by kernel_rfl) (by kernel_rfl) (fun u => ⟨#[_, _, _, _, _, _, _, _, _, _, _, _, _, _, _, _, _, _, _, _, _, _, _, _, _, _, _, _, u 0, u 1, u 2, u 3, u 4, u 5, u 6, u 7, u 8, u 9, u 10, u 11, u 12, u 13, u 14, u 15, u 16, u 17, u 18, u 19, u 20, u 21, u 22, u 23, _, _, _, _], _⟩) (fun i => List.getD [_, _, _, _, _, _, _, _, _, _, _, _, _, _, _, _, _, _, _, _, _, _, _, _] i undef) [is ?v30_0, is ?v30_1, is ?v30_2, is ?v30_3, is ?v30_4, is ?v30_5, is ?v30_6, is ?v30_7, is ?v30_8, is ?v30_9, is ?v30_10, is ?v30_11, is ?v30_12, is ?v30_13, is ?v30_14, is ?v30_15, is ?v30_16, is ?v30_17, is ?v30_18, is ?v30_19, is ?v30_20, is ?v30_21, is ?v30_22, is ?v30_23] (fun w' => w'.cell? ⟨w.heap.size, 0, none⟩ = some (.int .i64 px) ∧ w'.cell? ⟨w.heap.size, 1, none⟩ = some (.int .i64 py) ∧ w.heap.size < w'.heap.size ∧ w'.cell? ⟨wq.heap.size, 0, none⟩ = some (.int .i64 (gx l k)) ∧ w'.cell? ⟨wq.heap.size, 1, none⟩ = some (.int .i64 (gy l k)) ∧ wq.heap.size < w'.heap.size ∧ w'.cell? ⟨wq.heap.size + 1, 0, none⟩ = some (.int .i64 (gx l ((k + 1) % l.length))) ∧ w'.cell? ⟨wq.heap.size + 1, 1, none⟩ = some (.int .i64 (gy l ((k + 1) % l.length))) ∧ wq.heap.size + 1 < w'.heap.size) _ rfl ?hC30 ?hs30 ?hV30 ?fin30
              case hC30 => exact fun w' hx => (by have hq : Ext _ w' := hx; have hf0 := HB.out w' (by (repeat (first | exact Ext.refl _ | assumption | apply Ext.alloc | apply Ext.drew | apply Ext.drewN | (refine Ext.trans ?_ (by assumption))))); have hf1 := HQ.out w' (by (repeat (first | exact Ext.refl _ | assumption | apply Ext.alloc | apply Ext.drew | apply Ext.drewN | (refine Ext.trans ?_ (by assumption))))); and_intros <;> first | exact hf0 | exact hf0.1 | exact hf0.2.1 | exact hf0.2.2.1 | exact hf0.2.2.2.1 | exact hf0.2.2.2.2.1 | exact hf0.2.2.2.2.2.1 | exact hf0.2.2.2.2.2.2.1 | exact hf0.2.2.2.2.2.2.2.1 | exact hf0.2.2.2.2.2.2.2.2.1 | exact hf0.2.2.2.2.2.2.2.2.2.1 | exact hf0.2.2.2.2.2.2.2.2.2.2.1 | exact hf0.2.2.2.2.2.2.2.2.2.2.2.1 | exact hf0.2.2.2.2.2.2.2.2.2.2.2.2.1 | exact hf0.2.2.2.2.2.2.2.2.2.2.2.2.2.1 | exact hf0.2 | exact hf0.2.2 | exact hf0.2.2.2 | exact hf0.2.2.2.2 | exact hf0.2.2.2.2.2 | exact hf0.2.2.2.2.2.2 | exact hf0.2.2.2.2.2.2.2 | exact hf0.2.2.2.2.2.2.2.2 | exact hf0.2.2.2.2.2.2.2.2.2 | exact hf0.2.2.2.2.2.2.2.2.2.2 | exact hf0.2.2.2.2.2.2.2.2.2.2.2 | exact hf0.2.2.2.2.2.2.2.2.2.2.2.2 | exact hf0.2.2.2.2.2.2.2.2.2.2.2.2.2 | exact hf1 | exact hf1.1 | exact hf1.2.1 | exact hf1.2.2.1 | exact hf1.2.2.2.1 | exact hf1.2.2.2.2.1 | exact hf1.2.2.2.2.2.1 | exact hf1.2.2.2.2.2.2.1 | exact hf1.2.2.2.2.2.2.2.1 | exact hf1.2.2.2.2.2.2.2.2.1 | exact hf1.2.2.2.2.2.2.2.2.2.1 | exact hf1.2.2.2.2.2.2.2.2.2.2.1 | exact hf1.2.2.2.2.2.2.2.2.2.2.2.1 | exact hf1.2.2.2.2.2.2.2.2.2.2.2.2.1 | exact hf1.2.2.2.2.2.2.2.2.2.2.2.2.2.1 | exact hf1.2 | exact hf1.2.2 | exact hf1.2.2.2 | exact hf1.2.2.2.2 | exact hf1.2.2.2.2.2 | exact hf1.2.2.2.2.2.2 | exact hf1.2.2.2.2.2.2.2 | exact hf1.2.2.2.2.2.2.2.2 | exact hf1.2.2.2.2.2.2.2.2.2 | exact hf1.2.2.2.2.2.2.2.2.2.2 | exact hf1.2.2.2.2.2.2.2.2.2.2.2 | exact hf1.2.2.2.2.2.2.2.2.2.2.2.2 | exact hf1.2.2.2.2.2.2.2.2.2.2.2.2.2)
              case hs30 =>
                repeat' (first
                  | exact FSteps.nil
                  | refine FSteps.cons ?_ ?_
                  | (refine FStep.off_ _ _ _ rfl rfl ?_ (fun _ => rfl) ?_; (focus (intro u w hd; simp [vOf, is, Region.binds] at hd; simp [hd])); (intro w'; exact rfl); done)
                  | ((first
                      | refine FStep.plain rfl ?_
                      | (refine FStep.on_ _ _ _ rfl rfl ?_ ?_; (focus (intro u w hd; simp [vOf, is, Region.binds] at hd; simp [hd]))))
                     intro u w hW hC hd K hK
                     (try simp [vOf, is, Region.binds] at hd)
                     simp only [upd, Nat.reduceEqDiff, if_true, if_false] at hK
                     (try simp only [hd] at hK)
                     go_simp
                     (first
                       | (refine hK _ _ ?_ ?_; (first | exact rfl); (repeat (first | exact Ext.refl _ | assumption | apply Ext.alloc | apply Ext.drew | apply Ext.drewN | (refine Ext.trans ?_ (by assumption)))))
                       | (go_at_call 58; refine (turn_any _ _ _ _ _ _ _).mono ?_; rintro e w1 ⟨rfl, hb⟩; (try go_simp); refine hK _ _ ?_ ?_; (first | exact rfl); (repeat (first | exact Ext.refl _ | assumption | apply Ext.alloc | apply Ext.drew | apply Ext.drewN | (refine Ext.trans ?_ (by assumption))))))))
              case hV30 => (simp only [List.forall_mem_cons]; simp [stable_is])
              case fin30 =>
                intro u w2 hW2 hC2 hd
                simp only [AllV, is] at hd
                simp only [hd]
                clear hd
                clear hC2 fb fq
                go_wp2
                go_roundw
                case rel => exact ⟨k + 1, by omega, by go_num, by first | (rw [HC.out]; done) | (rw [HC.out]; rfl), by (repeat (first | exact Ext.refl _ | assumption | apply Ext.alloc | apply Ext.drew | apply Ext.drewN | (refine Ext.trans ?_ (by assumption)))), fun j hj => by by_cases e : j = k; (subst e; exact HO.out); exact HN.out j (by omega)⟩
                case measure => simp [intOf]; omega
          · have HC := hide (show parTo (crI l px py) (k + 1) = parTo (crI l px py) k by rw [parTo_succ]; unfold crI ; rw [e1, e2]; rfl)
            refine wp_flow (by kernel_rfl) (by kernel_rfl) (fun u => ⟨#[_, _, _, _, _, _, _, _, _, _, _, _, _, _, _, _, _, _, _, _, _, _, _, _, _, _, _, _, u 0, u 1, u 2, u 3, u 4, u 5, u 6, u 7, u 8, u 9, u 10, u 11, u 12, u 13, u 14, u 15, u 16, u 17, u 18, u 19, u 20, u 21, u 22, u 23, _, _, _, _], _⟩) (fun i => List.getD [_, _, _, _, _, _, _, _, _, _, _, _, _, _, _, _, _, _, _, _, _, _, _, _] i undef) [is ?v31_0, is ?v31_1, is ?v31_2, is ?v31_3, is ?v31_4, is ?v31_5, is ?v31_6, is ?v31_7, is ?v31_8, is ?v31_9, is ?v31_10, is ?v31_11, is ?v31_12, is ?v31_13, is ?v31_14, is ?v31_15, is ?v31_16, is ?v31_17, is ?v31_18, is ?v31_19, is ?v31_20, is ?v31_21, is ?v31_22, is ?v31_23] (fun w' => w'.cell? ⟨w.heap.size, 0, none⟩ = some (.int .i64 px) ∧ w'.cell? ⟨w.heap.size, 1, none⟩ = some (.int .i64 py) ∧ w.heap.size < w'.heap.size ∧ w'.cell? ⟨wq.heap.size, 0, none⟩ = some (.int .i64 (gx l k)) ∧ w'.cell? ⟨wq.heap.size, 1, none⟩ = some (.int .i64 (gy l k)) ∧ wq.heap.size < w'.heap.size ∧ w'.cell? ⟨wq.heap.size + 1, 0, none⟩ = some (.int .i64 (gx l ((k + 1) % l.length))) ∧ w'.cell? ⟨wq.heap.size + 1, 1, none⟩ = some (.int .i64 (gy l ((k + 1) % l.length))) ∧ wq.heap.size + 1 < w'.heap.size) _ rfl ?hC31 ?hs31 ?hV31 ?fin31
            case hC31 => exact fun w' hx => (by have hq : Ext _ w' := hx; have hf0 := HB.out w' (by (repeat (first | exact Ext.refl _ | assumption | apply Ext.alloc | apply Ext.drew | apply Ext.drewN | (refine Ext.trans ?_ (by assumption))))); have hf1 := HQ.out w' (by (repeat (first | exact Ext.refl _ | assumption | apply Ext.alloc | apply Ext.drew | apply Ext.drewN | (refine Ext.trans ?_ (by assumption))))); and_intros <;> first | exact hf0 | exact hf0.1 | exact hf0.2.1 | exact hf0.2.2.1 | exact hf0.2.2.2.1 | exact hf0.2.2.2.2.1 | exact hf0.2.2.2.2.2.1 | exact hf0.2.2.2.2.2.2.1 | exact hf0.2.2.2.2.2.2.2.1 | exact hf0.2.2.2.2.2.2.2.2.1 | exact hf0.2.2.2.2.2.2.2.2.2.1 | exact hf0.2.2.2.2.2.2.2.2.2.2.1 | exact hf0.2.2.2.2.2.2.2.2.2.2.2.1 | exact hf0.2.2.2.2.2.2.2.2.2.2.2.2.1 | exact hf0.2.2.2.2.2.2.2.2.2.2.2.2.2.1 | exact hf0.2 | exact hf0.2.2 | exact hf0.2.2.2 | exact hf0.2.2.2.2 | exact hf0.2.2.2.2.2 | exact hf0.2.2.2.2.2.2 | exact hf0.2.2.2.2.2.2.2 | exact hf0.2.2.2.2.2.2.2.2 | exact hf0.2.2.2.2.2.2.2.2.2 | exact hf0.2.2.2.2.2.2.2.2.2.2 | exact hf0.2.2.2.2.2.2.2.2.2.2.2 | exact hf0.2.2.2.2.2.2.2.2.2.2.2.2 | exact hf0.2.2.2.2.2.2.2.2.2.2.2.2.2 | exact hf1 | exact hf1.1 | exact hf1.2.1 | exact hf1.2.2.1 | exact hf1.2.2.2.1 | exact hf1.2.2.2.2.1 | exact hf1.2.2.2.2.2.1 | exact hf1.2.2.2.2.2.2.1 | exact hf1.2.2.2.2.2.2.2.1 | exact hf1.2.2.2.2.2.2.2.2.1 | exact hf1.2.2.2.2.2.2.2.2.2.1 | exact hf1.2.2.2.2.2.2.2.2.2.2.1 | exact hf1.2.2.2.2.2.2.2.2.2.2.2.1 | exact hf1.2.2.2.2.2.2.2.2.2.2.2.2.1 | exact hf1.2.2.2.2.2.2.2.2.2.2.2.2.2.1 | exact hf1.2 | exact hf1.2.2 | exact hf1.2.2.2 | exact hf1.2.2.2.2 | exact hf1.2.2.2.2.2 | exact hf1.2.2.2.2.2.2 | exact hf1.2.2.2.2.2.2.2 | exact hf1.2.2.2.2.2.2.2.2 | exact hf1.2.2.2.2.2.2.2.2.2 | exact hf1.2.2.2.2.2.2.2.2.2.2 | exact hf1.2.2.2.2.2.2.2.2.2.2.2 | exact hf1.2.2.2.2.2.2.2.2.2.2.2.2 | exact hf1.2.2.2.2.2.2.2.2.2.2.2.2.2)
            case hs31 =>
              repeat' (first
                | exact FSteps.nil
                | refine FSteps.cons ?_ ?_
                | (refine FStep.off_ _ _ _ rfl rfl ?_ (fun _ => rfl) ?_; (focus (intro u w hd; simp [vOf, is, Region.binds] at hd; simp [hd])); (intro w'; exact rfl); done)
                | ((first
                    | refine FStep.plain rfl ?_
                    | (refine FStep.on_ _ _ _ rfl rfl ?_ ?_; (focus (intro u w hd; simp [vOf, is, Region.binds] at hd; simp [hd]))))
                   intro u w hW hC hd K hK
                   (try simp [vOf, is, Region.binds] at hd)
                   simp only [upd, Nat.reduceEqDiff, if_true, if_false] at hK
                   (try simp only [hd] at hK)
                   go_simp
                   (first
                     | (refine hK _ _ ?_ ?_; (first | exact rfl); (repeat (first | exact Ext.refl _ | assumption | apply Ext.alloc | apply Ext.drew | apply Ext.drewN | (refine Ext.trans ?_ (by assumption)))))
                     | (go_at_call 58; refine (turn_any _ _ _ _ _ _ _).mono ?_; rintro e w1 ⟨rfl, hb⟩; (try go_simp); refine hK _ _ ?_ ?_; (first | exact rfl); (repeat (first | exact Ext.refl _ | assumption | apply Ext.alloc | apply Ext.drew | apply Ext.drewN | (refine Ext.trans ?_ (by assumption))))))))
            case hV31 => (simp only [List.forall_mem_cons]; simp [stable_is])
            case fin31 =>
              intro u w2 hW2 hC2 hd
              simp only [AllV, is] at hd
              simp only [hd]
              clear hd
              clear hC2 fb fq
              go_wp2
              go_roundw
              case rel => exact ⟨k + 1, by omega, by go_num, by first | (rw [HC.out]; done) | (rw [HC.out]; rfl), by (repeat (first | exact Ext.refl _ | assumption | apply Ext.alloc | apply Ext.drew | apply Ext.drewN | (refine Ext.trans ?_ (by assumption)))), fun j hj => by by_cases e : j = k; (subst e; exact HO.out); exact HN.out j (by omega)⟩
              case measure => simp [intOf]; omega
      · have HO := hide (placeV_on hlt ho)
        unfold onE at ho
        go_wp2_with (go_at_call 73; refine (on_any _ _ _ _ _ _ _).mono ?_; rintro e w1 ⟨rfl, hb1⟩)
        go_ret
        exact ⟨ret_int (by rw [HO.out]), by (repeat (first | exact Ext.refl _ | assumption | apply Ext.alloc | apply Ext.drew | apply Ext.drewN | (refine Ext.trans ?_ (by assumption))))⟩
    · have e : k = l.length := by omega
      have E := hide e
      clear e
      have HV := hide (placeV_off (fun j hj => HN.out j (by omega)))
      cases hpar : parTo (crI l px py) k
      all_goals
        have HP := hide hpar
        go_wp2
        go_ret
        exact ⟨ret_int (by rw [HV.out, ← E.out, HP.out]; rfl), by (repeat (first | exact Ext.refl _ | assumption | apply Ext.alloc | apply Ext.drew | apply Ext.drewN | (refine Ext.trans ?_ (by assumption))))⟩


set_option maxRecDepth 100000 in
set_option maxHeartbeats 4000000 in
theorem sHolds_any (A : Option Addr) (l : List (Int × Int)) (c : Nat) (px py : Int) (w : World) (hp : RPts w A l) (hn : l.length ≤ 1048576) :
    Calls Try.prog 35 #[.slice A l.length c, .agg #[.int .i64 px, .int .i64 py]] w fun e w' => e = .returned (.int .i64 (holdsV l px py)) ∧ Ext w w' := by
  have HB : Hid (∀ w', Ext (w.alloc (.cells #[.int .i64 px, .int .i64 py] 41)) w' → w'.cell? ⟨w.heap.size, 0, none⟩ = some (.int .i64 px) ∧ w'.cell? ⟨w.heap.size, 1, none⟩ = some (.int .i64 py) ∧ w.heap.size < w'.heap.size) := fun w' hx => by
    and_intros <;> (first | (have hz := hx.size; simp at hz; omega) | ((first | rw [hx.cells _ _ (by first | (simp; done) | (simp; omega))] | rw [hx.frozens _ _ (by first | (simp; done) | (simp; omega))]); (first | (simp [go_sem]; done) | (simp [go_sem, World.cell?_alloc_past]; done) | (simp [go_sem, World.frozen?]; done))))
  go_enter Try.func35, Try.ntmps35
  go_wp2
  go_loopw [5, 7] (fun b i wr => ∃ k : Nat, k ≤ l.length ∧ i = .int .i64 k ∧ b = .int .i64 (sg (parTo (crS l px py) k)) ∧ Ext (w.alloc (.cells #[.int .i64 px, .int .i64 py] 41)) wr ∧ Hid (∀ j, j < k → onE l px py j = false)) (fun _ i _ => l.length - (intOf i).toNat)
  case atStart => exact ⟨0, Nat.zero_le _, rfl, rfl, by (repeat (first | exact Ext.refl _ | assumption | apply Ext.alloc | apply Ext.drew | apply Ext.drewN | (refine Ext.trans ?_ (by assumption)))), fun j hj => absurd hj (by omega)⟩
  case round =>
    obtain ⟨k, hk, rfl, rfl, hbl, HN⟩ := hrel
    obtain ⟨wq, rfl⟩ : ∃ wq : World, wq = wr := ⟨_, rfl⟩
    have fb0 := HB.out wq hbl
    by_cases hlt : k < l.length
    · have hm1 : (k + 1) % l.length < l.length := Nat.mod_lt _ (by omega)
      have hpr : RPts wq A l := hp.ext (by (repeat (first | exact Ext.refl _ | assumption | apply Ext.alloc | apply Ext.drew | apply Ext.drewN | (refine Ext.trans ?_ (by assumption)))))
      obtain ⟨b, off, rfl⟩ := hpr.some_ (by omega)
      obtain ⟨hz, hx0, hy0⟩ := hpr.cell hlt
      obtain ⟨_, hx1, hy1⟩ := hpr.cell hm1
      have hne : l ≠ [] := fun e => by rw [e] at hlt; simp at hlt
      obtain ⟨q1, q2, q3, q4, q5⟩ := idx_facts ((k : Int) + 1) (k + 1) l.length (by omega) (by omega) (by omega)
      have HQ : Hid (∀ w', Ext ((wq.alloc (.cells #[.int .i64 (gx l k), .int .i64 (gy l k)] 41)).alloc (.cells #[.int .i64 (gx l ((k + 1) % l.length)), .int .i64 (gy l ((k + 1) % l.length))] 41)) w' → w'.cell? ⟨wq.heap.size, 0, none⟩ = some (.int .i64 (gx l k)) ∧ w'.cell? ⟨wq.heap.size, 1, none⟩ = some (.int .i64 (gy l k)) ∧ wq.heap.size < w'.heap.size ∧ w'.cell? ⟨wq.heap.size + 1, 0, none⟩ = some (.int .i64 (gx l ((k + 1) % l.length))) ∧ w'.cell? ⟨wq.heap.size + 1, 1, none⟩ = some (.int .i64 (gy l ((k + 1) % l.length))) ∧ wq.heap.size + 1 < w'.heap.size) := fun w' hx => by
        and_intros <;> (first | (have hz := hx.size; simp at hz; omega) | ((first | rw [hx.cells _ _ (by first | (simp; done) | (simp; omega))] | rw [hx.frozens _ _ (by first | (simp; done) | (simp; omega))]); (first | (simp [go_sem]; done) | (simp [go_sem, World.cell?_alloc_past]; done) | (simp [go_sem, World.frozen?]; done))))
      cases ho : onE l px py k
      · have HO := hide ho
        unfold onE at ho
        cases e1 : decide (py < gy l k)
        · have f1 : decide (gy l k ≤ py) = true := by simp at e1 ⊢; omega
          cases e2 : decide (py < gy l ((k + 1) % l.length))
          · have f2 : decide (gy l ((k + 1) % l.length) ≤ py) = true := by simp at e2 ⊢; omega
            have HC := hide (show sg (parTo (crS l px py) (k + 1)) = sg (parTo (crS l px py) k) by rw [parTo_succ]; unfold crS ; rw [f1, e2, f2, e1]; first | rfl | exact sg_not _)
            have hsg := sg_bd (parTo (crS l px py) k)
            go_wp2_with (first | (go_at_call 56; refine (sbet_any _ _ _ _ _ _ _).mono ?_; rintro e w1 ⟨rfl, hb1⟩; have fb := HB.out w1 (by (repeat (first | exact Ext.refl _ | assumption | apply Ext.alloc | apply Ext.drew | apply Ext.drewN | (refine Ext.trans ?_ (by assumption))))); have fq := HQ.out w1 (by (repeat (first | exact Ext.refl _ | assumption | apply Ext.alloc | apply Ext.drew | apply Ext.drewN | (refine Ext.trans ?_ (by assumption)))))) | (go_at_call 52; refine (sturn_any _ _ _ _ _ _ _).mono ?_; rintro e w2 ⟨rfl, hb2⟩; have fb2 := HB.out w2 (by (repeat (first | exact Ext.refl _ | assumption | apply Ext.alloc | apply Ext.drew | apply Ext.drewN | (refine Ext.trans ?_ (by assumption))))); have fq2 := HQ.out w2 (by (repeat (first | exact Ext.refl _ | assumption | apply Ext.alloc | apply Ext.drew | apply Ext.drewN | (refine Ext.trans ?_ (by assumption)))))))
            go_roundw
            case rel => exact ⟨k + 1, by omega, by go_num, by rw [HC.out], by (repeat (first | exact Ext.refl _ | assumption | apply Ext.alloc | apply Ext.drew | apply Ext.drewN | (refine Ext.trans ?_ (by assumption)))), fun j hj => by by_cases e : j = k; (subst e; exact HO.out); exact HN.out j (by omega)⟩
            case measure => simp [intOf]; omega
          · have f2 : decide (gy l ((k + 1) % l.length) ≤ py) = false := by simp at e2 ⊢; omega
            cases e3 : decide (0 < turnW (gx l k) (gy l k) (gx l ((k + 1) % l.length)) (gy l ((k + 1) % l.length)) px py)
            · have HC := hide (show sg (parTo (crS l px py) (k + 1)) = sg (parTo (crS l px py) k) by rw [parTo_succ]; unfold crS turnE; rw [f1, e2, e3, f2]; first | rfl | exact sg_not _)
              have hsg := sg_bd (parTo (crS l px py) k)
              go_wp2_with (first | (go_at_call 56; refine (sbet_any _ _ _ _ _ _ _).mono ?_; rintro e w1 ⟨rfl, hb1⟩; have fb := HB.out w1 (by (repeat (first | exact Ext.refl _ | assumption | apply Ext.alloc | apply Ext.drew | apply Ext.drewN | (refine Ext.trans ?_ (by assumption))))); have fq := HQ.out w1 (by (repeat (first | exact Ext.refl _ | assumption | apply Ext.alloc | apply Ext.drew | apply Ext.drewN | (refine Ext.trans ?_ (by assumption)))))) | (go_at_call 52; refine (sturn_any _ _ _ _ _ _ _).mono ?_; rintro e w2 ⟨rfl, hb2⟩; have fb2 := HB.out w2 (by (repeat (first | exact Ext.refl _ | assumption | apply Ext.alloc | apply Ext.drew | apply Ext.drewN | (refine Ext.trans ?_ (by assumption))))); have fq2 := HQ.out w2 (by (repeat (first | exact Ext.refl _ | assumption | apply Ext.alloc | apply Ext.drew | apply Ext.drewN | (refine Ext.trans ?_ (by assumption)))))))
              go_roundw
              case rel => exact ⟨k + 1, by omega, by go_num, by rw [HC.out], by (repeat (first | exact Ext.refl _ | assumption | apply Ext.alloc | apply Ext.drew | apply Ext.drewN | (refine Ext.trans ?_ (by assumption)))), fun j hj => by by_cases e : j = k; (subst e; exact HO.out); exact HN.out j (by omega)⟩
              case measure => simp [intOf]; omega
            · have HC := hide (show sg (parTo (crS l px py) (k + 1)) = -sg (parTo (crS l px py) k) by rw [parTo_succ]; unfold crS turnE; rw [f1, e2, e3]; first | rfl | exact sg_not _)
              have hsg := sg_bd (parTo (crS l px py) k)
              go_wp2_with (first | (go_at_call 56; refine (sbet_any _ _ _ _ _ _ _).mono ?_; rintro e w1 ⟨rfl, hb1⟩; have fb := HB.out w1 (by (repeat (first | exact Ext.refl _ | assumption | apply Ext.alloc | apply Ext.drew | apply Ext.drewN | (refine Ext.trans ?_ (by assumption))))); have fq := HQ.out w1 (by (repeat (first | exact Ext.refl _ | assumption | apply Ext.alloc | apply Ext.drew | apply Ext.drewN | (refine Ext.trans ?_ (by assumption)))))) | (go_at_call 52; refine (sturn_any _ _ _ _ _ _ _).mono ?_; rintro e w2 ⟨rfl, hb2⟩; have fb2 := HB.out w2 (by (repeat (first | exact Ext.refl _ | assumption | apply Ext.alloc | apply Ext.drew | apply Ext.drewN | (refine Ext.trans ?_ (by assumption))))); have fq2 := HQ.out w2 (by (repeat (first | exact Ext.refl _ | assumption | apply Ext.alloc | apply Ext.drew | apply Ext.drewN | (refine Ext.trans ?_ (by assumption)))))))
              go_roundw
              case rel => exact ⟨k + 1, by omega, by go_num, by rw [HC.out], by (repeat (first | exact Ext.refl _ | assumption | apply Ext.alloc | apply Ext.drew | apply Ext.drewN | (refine Ext.trans ?_ (by assumption)))), fun j hj => by by_cases e : j = k; (subst e; exact HO.out); exact HN.out j (by omega)⟩
              case measure => simp [intOf]; omega
        · have f1 : decide (gy l k ≤ py) = false := by simp at e1 ⊢; omega
          cases e2 : decide (py < gy l ((k + 1) % l.length))
          · have f2 : decide (gy l ((k + 1) % l.length) ≤ py) = true := by simp at e2 ⊢; omega
            cases e3 : decide (turnW (gx l k) (gy l k) (gx l ((k + 1) % l.length)) (gy l ((k + 1) % l.length)) px py < 0)
            · have HC := hide (show sg (parTo (crS l px py) (k + 1)) = sg (parTo (crS l px py) k) by rw [parTo_succ]; unfold crS turnE; rw [f1, f2, e1, e3]; first | rfl | exact sg_not _)
              have hsg := sg_bd (parTo (crS l px py) k)
              go_wp2_with (first | (go_at_call 56; refine (sbet_any _ _ _ _ _ _ _).mono ?_; rintro e w1 ⟨rfl, hb1⟩; have fb := HB.out w1 (by (repeat (first | exact Ext.refl _ | assumption | apply Ext.alloc | apply Ext.drew | apply Ext.drewN | (refine Ext.trans ?_ (by assumption))))); have fq := HQ.out w1 (by (repeat (first | exact Ext.refl _ | assumption | apply Ext.alloc | apply Ext.drew | apply Ext.drewN | (refine Ext.trans ?_ (by assumption)))))) | (go_at_call 52; refine (sturn_any _ _ _ _ _ _ _).mono ?_; rintro e w2 ⟨rfl, hb2⟩; have fb2 := HB.out w2 (by (repeat (first | exact Ext.refl _ | assumption | apply Ext.alloc | apply Ext.drew | apply Ext.drewN | (refine Ext.trans ?_ (by assumption))))); have fq2 := HQ.out w2 (by (repeat (first | exact Ext.refl _ | assumption | apply Ext.alloc | apply Ext.drew | apply Ext.drewN | (refine Ext.trans ?_ (by assumption)))))))
              go_roundw
              case rel => exact ⟨k + 1, by omega, by go_num, by rw [HC.out], by (repeat (first | exact Ext.refl _ | assumption | apply Ext.alloc | apply Ext.drew | apply Ext.drewN | (refine Ext.trans ?_ (by assumption)))), fun j hj => by by_cases e : j = k; (subst e; exact HO.out); exact HN.out j (by omega)⟩
              case measure => simp [intOf]; omega
            · have HC := hide (show sg (parTo (crS l px py) (k + 1)) = -sg (parTo (crS l px py) k) by rw [parTo_succ]; unfold crS turnE; rw [f1, f2, e1, e3]; first | rfl | exact sg_not _)
              have hsg := sg_bd (parTo (crS l px py) k)
              go_wp2_with (first | (go_at_call 56; refine (sbet_any _ _ _ _ _ _ _).mono ?_; rintro e w1 ⟨rfl, hb1⟩; have fb := HB.out w1 (by (repeat (first | exact Ext.refl _ | assumption | apply Ext.alloc | apply Ext.drew | apply Ext.drewN | (refine Ext.trans ?_ (by assumption))))); have fq := HQ.out w1 (by (repeat (first | exact Ext.refl _ | assumption | apply Ext.alloc | apply Ext.drew | apply Ext.drewN | (refine Ext.trans ?_ (by assumption)))))) | (go_at_call 52; refine (sturn_any _ _ _ _ _ _ _).mono ?_; rintro e w2 ⟨rfl, hb2⟩; have fb2 := HB.out w2 (by (repeat (first | exact Ext.refl _ | assumption | apply Ext.alloc | apply Ext.drew | apply Ext.drewN | (refine Ext.trans ?_ (by assumption))))); have fq2 := HQ.out w2 (by (repeat (first | exact Ext.refl _ | assumption | apply Ext.alloc | apply Ext.drew | apply Ext.drewN | (refine Ext.trans ?_ (by assumption)))))))
              go_roundw
              case rel => exact ⟨k + 1, by omega, by go_num, by rw [HC.out], by (repeat (first | exact Ext.refl _ | assumption | apply Ext.alloc | apply Ext.drew | apply Ext.drewN | (refine Ext.trans ?_ (by assumption)))), fun j hj => by by_cases e : j = k; (subst e; exact HO.out); exact HN.out j (by omega)⟩
              case measure => simp [intOf]; omega
          · have f2 : decide (gy l ((k + 1) % l.length) ≤ py) = false := by simp at e2 ⊢; omega
            have HC := hide (show sg (parTo (crS l px py) (k + 1)) = sg (parTo (crS l px py) k) by rw [parTo_succ]; unfold crS ; rw [f1, f2]; first | rfl | exact sg_not _)
            have hsg := sg_bd (parTo (crS l px py) k)
            go_wp2_with (first | (go_at_call 56; refine (sbet_any _ _ _ _ _ _ _).mono ?_; rintro e w1 ⟨rfl, hb1⟩; have fb := HB.out w1 (by (repeat (first | exact Ext.refl _ | assumption | apply Ext.alloc | apply Ext.drew | apply Ext.drewN | (refine Ext.trans ?_ (by assumption))))); have fq := HQ.out w1 (by (repeat (first | exact Ext.refl _ | assumption | apply Ext.alloc | apply Ext.drew | apply Ext.drewN | (refine Ext.trans ?_ (by assumption)))))) | (go_at_call 52; refine (sturn_any _ _ _ _ _ _ _).mono ?_; rintro e w2 ⟨rfl, hb2⟩; have fb2 := HB.out w2 (by (repeat (first | exact Ext.refl _ | assumption | apply Ext.alloc | apply Ext.drew | apply Ext.drewN | (refine Ext.trans ?_ (by assumption))))); have fq2 := HQ.out w2 (by (repeat (first | exact Ext.refl _ | assumption | apply Ext.alloc | apply Ext.drew | apply Ext.drewN | (refine Ext.trans ?_ (by assumption)))))))
            go_roundw
            case rel => exact ⟨k + 1, by omega, by go_num, by rw [HC.out], by (repeat (first | exact Ext.refl _ | assumption | apply Ext.alloc | apply Ext.drew | apply Ext.drewN | (refine Ext.trans ?_ (by assumption)))), fun j hj => by by_cases e : j = k; (subst e; exact HO.out); exact HN.out j (by omega)⟩
            case measure => simp [intOf]; omega
      · have HO := hide (holdsV_on hlt ho)
        unfold onE at ho
        go_wp2_with (go_at_call 56; refine (sbet_any _ _ _ _ _ _ _).mono ?_; rintro e w1 ⟨rfl, hb1⟩)
        go_ret
        exact ⟨ret_int (by rw [HO.out]), by (repeat (first | exact Ext.refl _ | assumption | apply Ext.alloc | apply Ext.drew | apply Ext.drewN | (refine Ext.trans ?_ (by assumption))))⟩
    · have e : k = l.length := by omega
      have E := hide e
      clear e
      have HV := hide (holdsV_off (fun j hj => HN.out j (by omega)))
      go_wp2
      go_ret
      exact ⟨ret_int (by rw [HV.out, ← E.out]), by (repeat (first | exact Ext.refl _ | assumption | apply Ext.alloc | apply Ext.drew | apply Ext.drewN | (refine Ext.trans ?_ (by assumption))))⟩

/-- PlaceIn, as both texts give it -/
def placeInV (l : List (Int × Int)) (px py : Int) : Int := if pok px py = true then (if roomB l = true then placeV l px py else 0) else 0

theorem place_fine {l : List (Int × Int)} {px py : Int} (hr : roomB l = true) (hq : pok px py = true) : placeV l px py = holdsV l px py + 1 :=
  place_holds (roomB_fine hr).1.small (within_more (within_of_pok hq) (by omega))
theorem holdsV_bd (l : List (Int × Int)) (px py : Int) : holdsV l px py = -1 ∨ holdsV l px py = 0 ∨ holdsV l px py = 1 := by
  unfold holdsV
  split
  · exact .inr (.inl rfl)
  · cases parTo (crS l px py) l.length
    · exact .inl rfl
    · exact .inr (.inr rfl)

set_option maxRecDepth 100000 in
set_option maxHeartbeats 1600000 in
theorem sPlaceIn_any (A : Option Addr) (l : List (Int × Int)) (c : Nat) (px py : Int) (w : World) (hp : RPts w A l) (hn : l.length ≤ 1048576) :
    Calls Try.prog 62 #[.agg #[.slice A l.length c], .agg #[.int .i64 px, .int .i64 py]] w fun e w' => e = .returned (.int .i64 (placeInV l px py)) ∧ Ext w w' := by
  have HB : Hid (∀ w', Ext ((w.alloc (.cells #[.slice A l.length c] 28)).alloc (.cells #[.int .i64 px, .int .i64 py] 41)) w' → w'.cell? ⟨w.heap.size, 0, none⟩ = some (.slice A l.length c) ∧ w.heap.size < w'.heap.size ∧ w'.cell? ⟨w.heap.size + 1, 0, none⟩ = some (.int .i64 px) ∧ w'.cell? ⟨w.heap.size + 1, 1, none⟩ = some (.int .i64 py) ∧ w.heap.size + 1 < w'.heap.size) := fun w' hx => by
    and_intros <;> (first | (have hz := hx.size; simp at hz; omega) | ((first | rw [hx.cells _ _ (by first | (simp; done) | (simp; omega))] | rw [hx.frozens _ _ (by first | (simp; done) | (simp; omega))]); (first | (simp [go_sem]; done) | (simp [go_sem, World.cell?_alloc_past]; done) | (simp [go_sem, World.frozen?]; done))))
  unfold placeInV
  cases hr : roomB l
  · have HV := hide (show (if pok px py = true then (if false = true then placeV l px py else 0) else 0) = 0 by split <;> rfl)
    rw [HV.out]
    go_enter Try.func62, Try.ntmps62
    go_wp2_with ((go_at_call 31; refine (sRoomOk_any _ _ _ _ (hp.ext (by (repeat (first | exact Ext.refl _ | assumption | apply Ext.alloc | apply Ext.drew | apply Ext.drewN | (refine Ext.trans ?_ (by assumption)))))) hn).mono ?_; rintro e w1 ⟨rfl, hb⟩; have hcc := HB.out w1 (by (repeat (first | exact Ext.refl _ | assumption | apply Ext.alloc | apply Ext.drew | apply Ext.drewN | (refine Ext.trans ?_ (by assumption)))))))
    go_ret
    exact ⟨rfl, by (repeat (first | exact Ext.refl _ | assumption | apply Ext.alloc | apply Ext.drew | apply Ext.drewN | (refine Ext.trans ?_ (by assumption))))⟩
  · cases hq : pok px py
    · go_enter Try.func62, Try.ntmps62
      go_wp2_with (first | (go_at_call 51; refine (spok_any _ _ _).mono ?_; rintro e w1 ⟨rfl, hb⟩; have h1 := HB.out w1 (by (repeat (first | exact Ext.refl _ | assumption | apply Ext.alloc | apply Ext.drew | apply Ext.drewN | (refine Ext.trans ?_ (by assumption)))))) | (go_at_call 31; refine (sRoomOk_any _ _ _ _ (hp.ext (by (repeat (first | exact Ext.refl _ | assumption | apply Ext.alloc | apply Ext.drew | apply Ext.drewN | (refine Ext.trans ?_ (by assumption)))))) hn).mono ?_; rintro e w2 ⟨rfl, hb2⟩; have h2 := HB.out w2 (by (repeat (first | exact Ext.refl _ | assumption | apply Ext.alloc | apply Ext.drew | apply Ext.drewN | (refine Ext.trans ?_ (by assumption)))))))
      go_ret
      exact ⟨rfl, by (repeat (first | exact Ext.refl _ | assumption | apply Ext.alloc | apply Ext.drew | apply Ext.drewN | (refine Ext.trans ?_ (by assumption))))⟩
    · have HV := hide (place_fine hr hq)
      obtain ⟨h, hh⟩ : ∃ h, h = holdsV l px py := ⟨_, rfl⟩
      have HH := hide hh
      have h3 := holdsV_bd l px py
      rw [← hh] at h3
      clear hh
      rcases h3 with rfl | rfl | rfl
      all_goals
        go_enter Try.func62, Try.ntmps62
        go_wp2_with (first | (go_at_call 51; refine (spok_any _ _ _).mono ?_; rintro e w1 ⟨rfl, hb⟩; have h1 := HB.out w1 (by (repeat (first | exact Ext.refl _ | assumption | apply Ext.alloc | apply Ext.drew | apply Ext.drewN | (refine Ext.trans ?_ (by assumption)))))) | (go_at_call 31; refine (sRoomOk_any _ _ _ _ (hp.ext (by (repeat (first | exact Ext.refl _ | assumption | apply Ext.alloc | apply Ext.drew | apply Ext.drewN | (refine Ext.trans ?_ (by assumption)))))) hn).mono ?_; rintro e w2 ⟨rfl, hb2⟩; have h2 := HB.out w2 (by (repeat (first | exact Ext.refl _ | assumption | apply Ext.alloc | apply Ext.drew | apply Ext.drewN | (refine Ext.trans ?_ (by assumption)))))) | (go_at_call 35; refine (sHolds_any _ _ _ _ _ _ (hp.ext (by (repeat (first | exact Ext.refl _ | assumption | apply Ext.alloc | apply Ext.drew | apply Ext.drewN | (refine Ext.trans ?_ (by assumption)))))) hn).mono ?_; rw [← HH.out]; rintro e w3 ⟨rfl, hb3⟩; have h3 := HB.out w3 (by (repeat (first | exact Ext.refl _ | assumption | apply Ext.alloc | apply Ext.drew | apply Ext.drewN | (refine Ext.trans ?_ (by assumption))))); have g0 := hb3.cells w1.heap.size 0 (by simp); have g1 := hb3.cells w1.heap.size 1 (by simp); have g2 := hb3.cells w1.heap.size 2 (by simp); (simp [go_sem] at g0 g1 g2)))
        go_ret
        exact ⟨ret_int (by rw [HV.out, ← HH.out]; rfl), by (repeat (first | exact Ext.refl _ | assumption | apply Ext.alloc | apply Ext.drew | apply Ext.drewN | (refine Ext.trans ?_ (by assumption))))⟩

/-- IsIn, as both texts give it -/
def isInV (l : List (Int × Int)) (px py : Int) : Bool := placeInV l px py != 0

set_option maxHeartbeats 800000 in
theorem sIsIn_any (A : Option Addr) (l : List (Int × Int)) (c : Nat) (px py : Int) (w : World) (hp : RPts w A l) (hn : l.length ≤ 1048576) :
    Calls Try.prog 39 #[.agg #[.slice A l.length c], .agg #[.int .i64 px, .int .i64 py]] w fun e w' => e = .returned (.bool (isInV l px py)) ∧ Ext w w' := by
  unfold isInV
  go_enter Try.func39, Try.ntmps39
  go_wp2_with (go_at_call 62; refine (sPlaceIn_any _ _ _ _ _ _ (hp.ext (by (repeat (first | exact Ext.refl _ | assumption | apply Ext.alloc | apply Ext.drew | apply Ext.drewN | (refine Ext.trans ?_ (by assumption)))))) hn).mono ?_; rintro e w1 ⟨rfl, hb⟩)
  go_ret
  exact ⟨rfl, by (repeat (first | exact Ext.refl _ | assumption | apply Ext.alloc | apply Ext.drew | apply Ext.drewN | (refine Ext.trans ?_ (by assumption))))⟩

end Go.Proofs.Ytnalongggkmllaa
