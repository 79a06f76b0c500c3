/-
  Contracts: where a point lies in a polygon; PlaceIn, IsIn.
-/
import Derived.Test.YtanagdlikoinaaaPlaceL
import Derived.Test.YtanagdlikoinaaaCor
namespace Go.Proofs.Ytanagdlikoinaaa
open Go.RowKit


set_option maxRecDepth 100000 in
set_option maxHeartbeats 4000000 in
theorem place_any (A : Option Addr) (l : List (Int × Int)) (c : Nat) (px py : Int) (w : World) (hp : RPts w A l) (hn : l.length ≤ 1048576) :
    Calls Try.prog 40 #[.slice A l.length c, .agg #[.int .i64 px, .int .i64 py]] w fun e w' => e = .returned (.int .i64 (placeV l px py)) ∧ Ext w w' := by
  have HB : Hid (∀ w', Ext (w.alloc (.cells #[.int .i64 px, .int .i64 py] 38)) w' → w'.cell? ⟨w.heap.size, 0, none⟩ = some (.int .i64 px) ∧ w'.cell? ⟨w.heap.size, 1, none⟩ = some (.int .i64 py) ∧ w.heap.size < w'.heap.size) := fun w' hx => by
    and_intros <;> (first | (have hz := hx.size; simp at hz; omega) | ((first | rw [hx.cells _ _ (by first | (simp; done) | (simp; omega))] | rw [hx.frozens _ _ (by first | (simp; done) | (simp; omega))]); (first | (simp [go_sem]; done) | (simp [go_sem, World.cell?_alloc_past]; done) | (simp [go_sem, World.frozen?]; done))))
  go_enter Try.func40, Try.ntmps40
  go_wp2
  go_loopw [5, 11] (fun b i wr => ∃ k : Nat, k ≤ l.length ∧ i = .int .i64 k ∧ b = .bool (parTo (crI l px py) k) ∧ Ext (w.alloc (.cells #[.int .i64 px, .int .i64 py] 38)) wr ∧ Hid (∀ j, j < k → onE l px py j = false)) (fun _ i _ => l.length - (intOf i).toNat)
  case atStart => exact ⟨0, Nat.zero_le _, rfl, rfl, by (repeat (first | exact Ext.refl _ | assumption | apply Ext.alloc | apply Ext.drew | apply Ext.drewN | (refine Ext.trans ?_ (by assumption)))), fun j hj => absurd hj (by omega)⟩
  case round =>
    obtain ⟨k, hk, rfl, rfl, hbl, HN⟩ := hrel
    obtain ⟨wq, rfl⟩ : ∃ wq : World, wq = wr := ⟨_, rfl⟩
    have fb0 := HB.out wq hbl
    by_cases hlt : k < l.length
    · have hm1 : (k + 1) % l.length < l.length := Nat.mod_lt _ (by omega)
      have hpr : RPts wq A l := hp.ext (by (repeat (first | exact Ext.refl _ | assumption | apply Ext.alloc | apply Ext.drew | apply Ext.drewN | (refine Ext.trans ?_ (by assumption)))))
      obtain ⟨b, off, rfl⟩ := hpr.some_ (by omega)
      obtain ⟨hz, hx0, hy0⟩ := hpr.cell hlt
      obtain ⟨_, hx1, hy1⟩ := hpr.cell hm1
      have hne : l ≠ [] := fun e => by rw [e] at hlt; simp at hlt
      obtain ⟨q1, q2, q3, q4, q5⟩ := idx_facts ((k : Int) + 1) (k + 1) l.length (by omega) (by omega) (by omega)
      have HQ : Hid (∀ w', Ext ((wq.alloc (.cells #[.int .i64 (gx l k), .int .i64 (gy l k)] 38)).alloc (.cells #[.int .i64 (gx l ((k + 1) % l.length)), .int .i64 (gy l ((k + 1) % l.length))] 38)) w' → w'.cell? ⟨wq.heap.size, 0, none⟩ = some (.int .i64 (gx l k)) ∧ w'.cell? ⟨wq.heap.size, 1, none⟩ = some (.int .i64 (gy l k)) ∧ wq.heap.size < w'.heap.size ∧ w'.cell? ⟨wq.heap.size + 1, 0, none⟩ = some (.int .i64 (gx l ((k + 1) % l.length))) ∧ w'.cell? ⟨wq.heap.size + 1, 1, none⟩ = some (.int .i64 (gy l ((k + 1) % l.length))) ∧ wq.heap.size + 1 < w'.heap.size) := fun w' hx => by
        and_intros <;> (first | (have hz := hx.size; simp at hz; omega) | ((first | rw [hx.cells _ _ (by first | (simp; done) | (simp; omega))] | rw [hx.frozens _ _ (by first | (simp; done) | (simp; omega))]); (first | (simp [go_sem]; done) | (simp [go_sem, World.cell?_alloc_past]; done) | (simp [go_sem, World.frozen?]; done))))
      cases ho : onE l px py k
      · have HO := hide ho
        unfold onE at ho
        go_wp2_with (go_at_call 41; refine (on_any _ _ _ _ _ _ _).mono ?_; rintro e w1 ⟨rfl, hb1⟩; have fb := HB.out w1 (by (repeat (first | exact Ext.refl _ | assumption | apply Ext.alloc | apply Ext.drew | apply Ext.drewN | (refine Ext.trans ?_ (by assumption))))); have fq := HQ.out w1 (by (repeat (first | exact Ext.refl _ | assumption | apply Ext.alloc | apply Ext.drew | apply Ext.drewN | (refine Ext.trans ?_ (by assumption))))))
        clear fb0 hx0 hy0 hx1 hy1 q1 q2 q3 q4 q5 ho
        cases e1 : decide (py < gy l k)
        · cases e2 : decide (py < gy l ((k + 1) % l.length))
          · have HC := hide (show parTo (crI l px py) (k + 1) = parTo (crI l px py) k by rw [parTo_succ]; unfold crI ; rw [e1, e2]; rfl)
            refine wp_flow (by kernel_rfl) (by kernel_rfl) (fun u => ⟨#[_, _, _, _, _, _, _, _, _, _, _, _, _, _, _, _, _, _, _, _, _, _, _, _, _, _, _, _, u 0, u 1, u 2, u 3, u 4, u 5, u 6, u 7, u 8, u 9, u 10, u 11, u 12, u 13, u 14, u 15, u 16, u 17, u 18, u 19, u 20, u 21, u 22, u 23, _, _, _, _], _⟩) (fun i => List.getD [_, _, _, _, _, _, _, _, _, _, _, _, _, _, _, _, _, _, _, _, _, _, _, _] i undef) [is ?v1_0, is ?v1_1, is ?v1_2, is ?v1_3, is ?v1_4, is ?v1_5, is ?v1_6, is ?v1_7, is ?v1_8, is ?v1_9, is ?v1_10, is ?v1_11, is ?v1_12, is ?v1_13, is ?v1_14, is ?v1_15, is ?v1_16, is ?v1_17, is ?v1_18, is ?v1_19, is ?v1_20, is ?v1_21, is ?v1_22, is ?v1_23] (fun w' => w'.cell? ⟨w.heap.size, 0, none⟩ = some (.int .i64 px) ∧ w'.cell? ⟨w.heap.size, 1, none⟩ = some (.int .i64 py) ∧ w.heap.size < w'.heap.size ∧ w'.cell? ⟨wq.heap.size, 0, none⟩ = some (.int .i64 (gx l k)) ∧ w'.cell? ⟨wq.heap.size, 1, none⟩ = some (.int .i64 (gy l k)) ∧ wq.heap.size < w'.heap.size ∧ w'.cell? ⟨wq.heap.size + 1, 0, none⟩ = some (.int .i64 (gx l ((k + 1) % l.length))) ∧ w'.cell? ⟨wq.heap.size + 1, 1, none⟩ = some (.int .i64 (gy l ((k + 1) % l.length))) ∧ wq.heap.size + 1 < w'.heap.size) _ rfl ?hC1 ?hs1 ?hV1 ?fin1
            case hC1 => exact fun w' hx => (by have hq : Ext _ w' := hx; have hf0 := HB.out w' (by (repeat (first | exact Ext.refl _ | assumption | apply Ext.alloc | apply Ext.drew | apply Ext.drewN | (refine Ext.trans ?_ (by assumption))))); have hf1 := HQ.out w' (by (repeat (first | exact Ext.refl _ | assumption | apply Ext.alloc | apply Ext.drew | apply Ext.drewN | (refine Ext.trans ?_ (by assumption))))); and_intros <;> first | exact hf0 | exact hf0.1 | exact hf0.2.1 | exact hf0.2.2.1 | exact hf0.2.2.2.1 | exact hf0.2.2.2.2.1 | exact hf0.2.2.2.2.2.1 | exact hf0.2.2.2.2.2.2.1 | exact hf0.2.2.2.2.2.2.2.1 | exact hf0.2.2.2.2.2.2.2.2.1 | exact hf0.2.2.2.2.2.2.2.2.2.1 | exact hf0.2.2.2.2.2.2.2.2.2.2.1 | exact hf0.2.2.2.2.2.2.2.2.2.2.2.1 | exact hf0.2.2.2.2.2.2.2.2.2.2.2.2.1 | exact hf0.2.2.2.2.2.2.2.2.2.2.2.2.2.1 | exact hf0.2 | exact hf0.2.2 | exact hf0.2.2.2 | exact hf0.2.2.2.2 | exact hf0.2.2.2.2.2 | exact hf0.2.2.2.2.2.2 | exact hf0.2.2.2.2.2.2.2 | exact hf0.2.2.2.2.2.2.2.2 | exact hf0.2.2.2.2.2.2.2.2.2 | exact hf0.2.2.2.2.2.2.2.2.2.2 | exact hf0.2.2.2.2.2.2.2.2.2.2.2 | exact hf0.2.2.2.2.2.2.2.2.2.2.2.2 | exact hf0.2.2.2.2.2.2.2.2.2.2.2.2.2 | exact hf1 | exact hf1.1 | exact hf1.2.1 | exact hf1.2.2.1 | exact hf1.2.2.2.1 | exact hf1.2.2.2.2.1 | exact hf1.2.2.2.2.2.1 | exact hf1.2.2.2.2.2.2.1 | exact hf1.2.2.2.2.2.2.2.1 | exact hf1.2.2.2.2.2.2.2.2.1 | exact hf1.2.2.2.2.2.2.2.2.2.1 | exact hf1.2.2.2.2.2.2.2.2.2.2.1 | exact hf1.2.2.2.2.2.2.2.2.2.2.2.1 | exact hf1.2.2.2.2.2.2.2.2.2.2.2.2.1 | exact hf1.2.2.2.2.2.2.2.2.2.2.2.2.2.1 | exact hf1.2 | exact hf1.2.2 | exact hf1.2.2.2 | exact hf1.2.2.2.2 | exact hf1.2.2.2.2.2 | exact hf1.2.2.2.2.2.2 | exact hf1.2.2.2.2.2.2.2 | exact hf1.2.2.2.2.2.2.2.2 | exact hf1.2.2.2.2.2.2.2.2.2 | exact hf1.2.2.2.2.2.2.2.2.2.2 | exact hf1.2.2.2.2.2.2.2.2.2.2.2 | exact hf1.2.2.2.2.2.2.2.2.2.2.2.2 | exact hf1.2.2.2.2.2.2.2.2.2.2.2.2.2)
            case hs1 =>
              repeat' (first
                | exact FSteps.nil
                | refine FSteps.cons ?_ ?_
                | (refine FStep.off_ _ _ _ rfl rfl ?_ (fun _ => rfl) ?_; (focus (intro u w hd; simp [vOf, is, Region.binds] at hd; simp [hd])); (intro w'; exact rfl); done)
                | ((first
                    | refine FStep.plain rfl ?_
                    | (refine FStep.on_ _ _ _ rfl rfl ?_ ?_; (focus (intro u w hd; simp [vOf, is, Region.binds] at hd; simp [hd]))))
                   intro u w hW hC hd K hK
                   (try simp [vOf, is, Region.binds] at hd)
                   simp only [upd, Nat.reduceEqDiff, if_true, if_false] at hK
                   (try simp only [hd] at hK)
                   go_simp
                   (first
                     | (refine hK _ _ ?_ ?_; (first | exact rfl); (repeat (first | exact Ext.refl _ | assumption | apply Ext.alloc | apply Ext.drew | apply Ext.drewN | (refine Ext.trans ?_ (by assumption)))))
                     | (go_at_call 49; refine (turn_any _ _ _ _ _ _ _).mono ?_; rintro e w1 ⟨rfl, hb⟩; (try go_simp); refine hK _ _ ?_ ?_; (first | exact rfl); (repeat (first | exact Ext.refl _ | assumption | apply Ext.alloc | apply Ext.drew | apply Ext.drewN | (refine Ext.trans ?_ (by assumption))))))))
            case hV1 => (simp only [List.forall_mem_cons]; simp [stable_is])
            case fin1 =>
              intro u w2 hW2 hC2 hd
              simp only [AllV, is] at hd
              simp only [hd]
              clear hd
              clear hC2 fb fq
              go_wp2
              go_roundw
              case rel => exact ⟨k + 1, by omega, by go_num, by first | (rw [HC.out]; done) | (rw [HC.out]; rfl), by (repeat (first | exact Ext.refl _ | assumption | apply Ext.alloc | apply Ext.drew | apply Ext.drewN | (refine Ext.trans ?_ (by assumption)))), fun j hj => by by_cases e : j = k; (subst e; exact HO.out); exact HN.out j (by omega)⟩
              case measure => simp [intOf]; omega
          · have e4 : decide (gy l k < gy l ((k + 1) % l.length)) = true := by simp at e1 e2 ⊢; omega
            cases e3 : decide (0 < turnW (gx l k) (gy l k) (gx l ((k + 1) % l.length)) (gy l ((k + 1) % l.length)) px py)
            · have HC := hide (show parTo (crI l px py) (k + 1) = parTo (crI l px py) k by rw [parTo_succ]; unfold crI turnE; rw [e1, e2, e3, e4]; rfl)
              refine wp_flow (by kernel_rfl) (by kernel_rfl) (fun u => ⟨#[_, _, _, _, _, _, _, _, _, _, _, _, _, _, _, _, _, _, _, _, _, _, _, _, _, _, _, _, u 0, u 1, u 2, u 3, u 4, u 5, u 6, u 7, u 8, u 9, u 10, u 11, u 12, u 13, u 14, u 15, u 16, u 17, u 18, u 19, u 20, u 21, u 22, u 23, _, _, _, _], _⟩) (fun i => List.getD [_, _, _, _, _, _, _, _, _, _, _, _, _, _, _, _, _, _, _, _, _, _, _, _] i undef) [is ?v2_0, is ?v2_1, is ?v2_2, is ?v2_3, is ?v2_4, is ?v2_5, is ?v2_6, is ?v2_7, is ?v2_8, is ?v2_9, is ?v2_10, is ?v2_11, is ?v2_12, is ?v2_13, is ?v2_14, is ?v2_15, is ?v2_16, is ?v2_17, is ?v2_18, is ?v2_19, is ?v2_20, is ?v2_21, is ?v2_22, is ?v2_23] (fun w' => w'.cell? ⟨w.heap.size, 0, none⟩ = some (.int .i64 px) ∧ w'.cell? ⟨w.heap.size, 1, none⟩ = some (.int .i64 py) ∧ w.heap.size < w'.heap.size ∧ w'.cell? ⟨wq.heap.size, 0, none⟩ = some (.int .i64 (gx l k)) ∧ w'.cell? ⟨wq.heap.size, 1, none⟩ = some (.int .i64 (gy l k)) ∧ wq.heap.size < w'.heap.size ∧ w'.cell? ⟨wq.heap.size + 1, 0, none⟩ = some (.int .i64 (gx l ((k + 1) % l.length))) ∧ w'.cell? ⟨wq.heap.size + 1, 1, none⟩ = some (.int .i64 (gy l ((k + 1) % l.length))) ∧ wq.heap.size + 1 < w'.heap.size) _ rfl ?hC2 ?hs2 ?hV2 ?fin2
              case hC2 => exact fun w' hx => (by have hq : Ext _ w' := hx; have hf0 := HB.out w' (by (repeat (first | exact Ext.refl _ | assumption | apply Ext.alloc | apply Ext.drew | apply Ext.drewN | (refine Ext.trans ?_ (by assumption))))); have hf1 := HQ.out w' (by (repeat (first | exact Ext.refl _ | assumption | apply Ext.alloc | apply Ext.drew | apply Ext.drewN | (refine Ext.trans ?_ (by assumption))))); and_intros <;> first | exact hf0 | exact hf0.1 | exact hf0.2.1 | exact hf0.2.2.1 | exact hf0.2.2.2.1 | exact hf0.2.2.2.2.1 | exact hf0.2.2.2.2.2.1 | exact hf0.2.2.2.2.2.2.1 | exact hf0.2.2.2.2.2.2.2.1 | exact hf0.2.2.2.2.2.2.2.2.1 | exact hf0.2.2.2.2.2.2.2.2.2.1 | exact hf0.2.2.2.2.2.2.2.2.2.2.1 | exact hf0.2.2.2.2.2.2.2.2.2.2.2.1 | exact hf0.2.2.2.2.2.2.2.2.2.2.2.2.1 | exact hf0.2.2.2.2.2.2.2.2.2.2.2.2.2.1 | exact hf0.2 | exact hf0.2.2 | exact hf0.2.2.2 | exact hf0.2.2.2.2 | exact hf0.2.2.2.2.2 | exact hf0.2.2.2.2.2.2 | exact hf0.2.2.2.2.2.2.2 | exact hf0.2.2.2.2.2.2.2.2 | exact hf0.2.2.2.2.2.2.2.2.2 | exact hf0.2.2.2.2.2.2.2.2.2.2 | exact hf0.2.2.2.2.2.2.2.2.2.2.2 | exact hf0.2.2.2.2.2.2.2.2.2.2.2.2 | exact hf0.2.2.2.2.2.2.2.2.2.2.2.2.2 | exact hf1 | exact hf1.1 | exact hf1.2.1 | exact hf1.2.2.1 | exact hf1.2.2.2.1 | exact hf1.2.2.2.2.1 | exact hf1.2.2.2.2.2.1 | exact hf1.2.2.2.2.2.2.1 | exact hf1.2.2.2.2.2.2.2.1 | exact hf1.2.2.2.2.2.2.2.2.1 | exact hf1.2.2.2.2.2.2.2.2.2.1 | exact hf1.2.2.2.2.2.2.2.2.2.2.1 | exact hf1.2.2.2.2.2.2.2.2.2.2.2.1 | exact hf1.2.2.2.2.2.2.2.2.2.2.2.2.1 | exact hf1.2.2.2.2.2.2.2.2.2.2.2.2.2.1 | exact hf1.2 | exact hf1.2.2 | exact hf1.2.2.2 | exact hf1.2.2.2.2 | exact hf1.2.2.2.2.2 | exact hf1.2.2.2.2.2.2 | exact hf1.2.2.2.2.2.2.2 | exact hf1.2.2.2.2.2.2.2.2 | exact hf1.2.2.2.2.2.2.2.2.2 | exact hf1.2.2.2.2.2.2.2.2.2.2 | exact hf1.2.2.2.2.2.2.2.2.2.2.2 | exact hf1.2.2.2.2.2.2.2.2.2.2.2.2 | exact hf1.2.2.2.2.2.2.2.2.2.2.2.2.2)
              case hs2 =>
                repeat' (first
                  | exact FSteps.nil
                  | refine FSteps.cons ?_ ?_
                  | (refine FStep.off_ _ _ _ rfl rfl ?_ (fun _ => rfl) ?_; (focus (intro u w hd; simp [vOf, is, Region.binds] at hd; simp [hd])); (intro w'; exact rfl); done)
                  | ((first
                      | refine FStep.plain rfl ?_
                      | (refine FStep.on_ _ _ _ rfl rfl ?_ ?_; (focus (intro u w hd; simp [vOf, is, Region.binds] at hd; simp [hd]))))
                     intro u w hW hC hd K hK
                     (try simp [vOf, is, Region.binds] at hd)
                     simp only [upd, Nat.reduceEqDiff, if_true, if_false] at hK
                     (try simp only [hd] at hK)
                     go_simp
                     (first
                       | (refine hK _ _ ?_ ?_; (first | exact rfl); (repeat (first | exact Ext.refl _ | assumption | apply Ext.alloc | apply Ext.drew | apply Ext.drewN | (refine Ext.trans ?_ (by assumption)))))
                       | (go_at_call 49; refine (turn_any _ _ _ _ _ _ _).mono ?_; rintro e w1 ⟨rfl, hb⟩; (try go_simp); refine hK _ _ ?_ ?_; (first | exact rfl); (repeat (first | exact Ext.refl _ | assumption | apply Ext.alloc | apply Ext.drew | apply Ext.drewN | (refine Ext.trans ?_ (by assumption))))))))
              case hV2 => (simp only [List.forall_mem_cons]; simp [stable_is])
              case fin2 =>
                intro u w2 hW2 hC2 hd
                simp only [AllV, is] at hd
                simp only [hd]
                clear hd
                clear hC2 fb fq
                go_wp2
                go_roundw
                case rel => exact ⟨k + 1, by omega, by go_num, by first | (rw [HC.out]; done) | (rw [HC.out]; rfl), by (repeat (first | exact Ext.refl _ | assumption | apply Ext.alloc | apply Ext.drew | apply Ext.drewN | (refine Ext.trans ?_ (by assumption)))), fun j hj => by by_cases e : j = k; (subst e; exact HO.out); exact HN.out j (by omega)⟩
                case measure => simp [intOf]; omega
            · have HC := hide (show parTo (crI l px py) (k + 1) = !parTo (crI l px py) k by rw [parTo_succ]; unfold crI turnE; rw [e1, e2, e3, e4]; rfl)
              refine wp_flow (by kernel_rfl) (by kernel_rfl) (fun u => ⟨#[_, _, _, _, _, _, _, _, _, _, _, _, _, _, _, _, _, _, _, _, _, _, _, _, _, _, _, _, u 0, u 1, u 2, u 3, u 4, u 5, u 6, u 7, u 8, u 9, u 10, u 11, u 12, u 13, u 14, u 15, u 16, u 17, u 18, u 19, u 20, u 21, u 22, u 23, _, _, _, _], _⟩) (fun i => List.getD [_, _, _, _, _, _, _, _, _, _, _, _, _, _, _, _, _, _, _, _, _, _, _, _] i undef) [is ?v3_0, is ?v3_1, is ?v3_2, is ?v3_3, is ?v3_4, is ?v3_5, is ?v3_6, is ?v3_7, is ?v3_8, is ?v3_9, is ?v3_10, is ?v3_11, is ?v3_12, is ?v3_13, is ?v3_14, is ?v3_15, is ?v3_16, is ?v3_17, is ?v3_18, is ?v3_19, is ?v3_20, is ?v3_21, is ?v3_22, is ?v3_23] (fun w' => w'.cell? ⟨w.heap.size, 0, none⟩ = some (.int .i64 px) ∧ w'.cell? ⟨w.heap.size, 1, none⟩ = some (.int .i64 py) ∧ w.heap.size < w'.heap.size ∧ w'.cell? ⟨wq.heap.size, 0, none⟩ = some (.int .i64 (gx l k)) ∧ w'.cell? ⟨wq.heap.size, 1, none⟩ = some (.int .i64 (gy l k)) ∧ wq.heap.size < w'.heap.size ∧ w'.cell? ⟨wq.heap.size + 1, 0, none⟩ = some (.int .i64 (gx l ((k + 1) % l.length))) ∧ w'.cell? ⟨wq.heap.size + 1, 1, none⟩ = some (.int .i64 (gy l ((k + 1) % l.length))) ∧ wq.heap.size + 1 < w'.heap.size) _ rfl ?hC3 ?hs3 ?hV3 ?fin3
              case hC3 => exact fun w' hx => (by have hq : Ext _ w' := hx; have hf0 := HB.out w' (by (repeat (first | exact Ext.refl _ | assumption | apply Ext.alloc | apply Ext.drew | apply Ext.drewN | (refine Ext.trans ?_ (by assumption))))); have hf1 := HQ.out w' (by (repeat (first | exact Ext.refl _ | assumption | apply Ext.alloc | apply Ext.drew | apply Ext.drewN | (refine Ext.trans ?_ (by assumption))))); and_intros <;> first | exact hf0 | exact hf0.1 | exact hf0.2.1 | exact hf0.2.2.1 | exact hf0.2.2.2.1 | exact hf0.2.2.2.2.1 | exact hf0.2.2.2.2.2.1 | exact hf0.2.2.2.2.2.2.1 | exact hf0.2.2.2.2.2.2.2.1 | exact hf0.2.2.2.2.2.2.2.2.1 | exact hf0.2.2.2.2.2.2.2.2.2.1 | exact hf0.2.2.2.2.2.2.2.2.2.2.1 | exact hf0.2.2.2.2.2.2.2.2.2.2.2.1 | exact hf0.2.2.2.2.2.2.2.2.2.2.2.2.1 | exact hf0.2.2.2.2.2.2.2.2.2.2.2.2.2.1 | exact hf0.2 | exact hf0.2.2 | exact hf0.2.2.2 | exact hf0.2.2.2.2 | exact hf0.2.2.2.2.2 | exact hf0.2.2.2.2.2.2 | exact hf0.2.2.2.2.2.2.2 | exact hf0.2.2.2.2.2.2.2.2 | exact hf0.2.2.2.2.2.2.2.2.2 | exact hf0.2.2.2.2.2.2.2.2.2.2 | exact hf0.2.2.2.2.2.2.2.2.2.2.2 | exact hf0.2.2.2.2.2.2.2.2.2.2.2.2 | exact hf0.2.2.2.2.2.2.2.2.2.2.2.2.2 | exact hf1 | exact hf1.1 | exact hf1.2.1 | exact hf1.2.2.1 | exact hf1.2.2.2.1 | exact hf1.2.2.2.2.1 | exact hf1.2.2.2.2.2.1 | exact hf1.2.2.2.2.2.2.1 | exact hf1.2.2.2.2.2.2.2.1 | exact hf1.2.2.2.2.2.2.2.2.1 | exact hf1.2.2.2.2.2.2.2.2.2.1 | exact hf1.2.2.2.2.2.2.2.2.2.2.1 | exact hf1.2.2.2.2.2.2.2.2.2.2.2.1 | exact hf1.2.2.2.2.2.2.2.2.2.2.2.2.1 | exact hf1.2.2.2.2.2.2.2.2.2.2.2.2.2.1 | exact hf1.2 | exact hf1.2.2 | exact hf1.2.2.2 | exact hf1.2.2.2.2 | exact hf1.2.2.2.2.2 | exact hf1.2.2.2.2.2.2 | exact hf1.2.2.2.2.2.2.2 | exact hf1.2.2.2.2.2.2.2.2 | exact hf1.2.2.2.2.2.2.2.2.2 | exact hf1.2.2.2.2.2.2.2.2.2.2 | exact hf1.2.2.2.2.2.2.2.2.2.2.2 | exact hf1.2.2.2.2.2.2.2.2.2.2.2.2 | exact hf1.2.2.2.2.2.2.2.2.2.2.2.2.2)
              case hs3 =>
                repeat' (first
                  | exact FSteps.nil
                  | refine FSteps.cons ?_ ?_
                  | (refine FStep.off_ _ _ _ rfl rfl ?_ (fun _ => rfl) ?_; (focus (intro u w hd; simp [vOf, is, Region.binds] at hd; simp [hd])); (intro w'; exact rfl); done)
                  | ((first
                      | refine FStep.plain rfl ?_
                      | (refine FStep.on_ _ _ _ rfl rfl ?_ ?_; (focus (intro u w hd; simp [vOf, is, Region.binds] at hd; simp [hd]))))
                     intro u w hW hC hd K hK
                     (try simp [vOf, is, Region.binds] at hd)
                     simp only [upd, Nat.reduceEqDiff, if_true, if_false] at hK
                     (try simp only [hd] at hK)
                     go_simp
                     (first
                       | (refine hK _ _ ?_ ?_; (first | exact rfl); (repeat (first | exact Ext.refl _ | assumption | apply Ext.alloc | apply Ext.drew | apply Ext.drewN | (refine Ext.trans ?_ (by assumption)))))
                       | (go_at_call 49; refine (turn_any _ _ _ _ _ _ _).mono ?_; rintro e w1 ⟨rfl, hb⟩; (try go_simp); refine hK _ _ ?_ ?_; (first | exact rfl); (repeat (first | exact Ext.refl _ | assumption | apply Ext.alloc | apply Ext.drew | apply Ext.drewN | (refine Ext.trans ?_ (by assumption))))))))
              case hV3 => (simp only [List.forall_mem_cons]; simp [stable_is])
              case fin3 =>
                intro u w2 hW2 hC2 hd
                simp only [AllV, is] at hd
                simp only [hd]
                clear hd
                clear hC2 fb fq
                go_wp2
                go_roundw
                case rel => exact ⟨k + 1, by omega, by go_num, by first | (rw [HC.out]; done) | (rw [HC.out]; rfl), by (repeat (first | exact Ext.refl _ | assumption | apply Ext.alloc | apply Ext.drew | apply Ext.drewN | (refine Ext.trans ?_ (by assumption)))), fun j hj => by by_cases e : j = k; (subst e; exact HO.out); exact HN.out j (by omega)⟩
                case measure => simp [intOf]; omega
        · cases e2 : decide (py < gy l ((k + 1) % l.length))
          · have e4 : decide (gy l k < gy l ((k + 1) % l.length)) = false := by simp at e1 e2 ⊢; omega
            cases e3 : decide (0 < turnW (gx l k) (gy l k) (gx l ((k + 1) % l.length)) (gy l ((k + 1) % l.length)) px py)
            · have HC := hide (show parTo (crI l px py) (k + 1) = !parTo (crI l px py) k by rw [parTo_succ]; unfold crI turnE; rw [e1, e2, e3, e4]; rfl)
              refine wp_flow (by kernel_rfl) (by kernel_rfl) (fun u => ⟨#[_, _, _, _, _, _, _, _, _, _, _, _, _, _, _, _, _, _, _, _, _, _, _, _, _, _, _, _, u 0, u 1, u 2, u 3, u 4, u 5, u 6, u 7, u 8, u 9, u 10, u 11, u 12, u 13, u 14, u 15, u 16, u 17, u 18, u 19, u 20, u 21, u 22, u 23, _, _, _, _], _⟩) (fun i => List.getD [_, _, _, _, _, _, _, _, _, _, _, _, _, _, _, _, _, _, _, _, _, _, _, _] i undef) [is ?v4_0, is ?v4_1, is ?v4_2, is ?v4_3, is ?v4_4, is ?v4_5, is ?v4_6, is ?v4_7, is ?v4_8, is ?v4_9, is ?v4_10, is ?v4_11, is ?v4_12, is ?v4_13, is ?v4_14, is ?v4_15, is ?v4_16, is ?v4_17, is ?v4_18, is ?v4_19, is ?v4_20, is ?v4_21, is ?v4_22, is ?v4_23] (fun w' => w'.cell? ⟨w.heap.size, 0, none⟩ = some (.int .i64 px) ∧ w'.cell? ⟨w.heap.size, 1, none⟩ = some (.int .i64 py) ∧ w.heap.size < w'.heap.size ∧ w'.cell? ⟨wq.heap.size, 0, none⟩ = some (.int .i64 (gx l k)) ∧ w'.cell? ⟨wq.heap.size, 1, none⟩ = some (.int .i64 (gy l k)) ∧ wq.heap.size < w'.heap.size ∧ w'.cell? ⟨wq.heap.size + 1, 0, none⟩ = some (.int .i64 (gx l ((k + 1) % l.length))) ∧ w'.cell? ⟨wq.heap.size + 1, 1, none⟩ = some (.int .i64 (gy l ((k + 1) % l.length))) ∧ wq.heap.size + 1 < w'.heap.size) _ rfl ?hC4 ?hs4 ?hV4 ?fin4
              case hC4 => exact fun w' hx => (by have hq : Ext _ w' := hx; have hf0 := HB.out w' (by (repeat (first | exact Ext.refl _ | assumption | apply Ext.alloc | apply Ext.drew | apply Ext.drewN | (refine Ext.trans ?_ (by assumption))))); have hf1 := HQ.out w' (by (repeat (first | exact Ext.refl _ | assumption | apply Ext.alloc | apply Ext.drew | apply Ext.drewN | (refine Ext.trans ?_ (by assumption))))); and_intros <;> first | exact hf0 | exact hf0.1 | exact hf0.2.1 | exact hf0.2.2.1 | exact hf0.2.2.2.1 | exact hf0.2.2.2.2.1 | exact hf0.2.2.2.2.2.1 | exact hf0.2.2.2.2.2.2.1 | exact hf0.2.2.2.2.2.2.2.1 | exact hf0.2.2.2.2.2.2.2.2.1 | exact hf0.2.2.2.2.2.2.2.2.2.1 | exact hf0.2.2.2.2.2.2.2.2.2.2.1 | exact hf0.2.2.2.2.2.2.2.2.2.2.2.1 | exact hf0.2.2.2.2.2.2.2.2.2.2.2.2.1 | exact hf0.2.2.2.2.2.2.2.2.2.2.2.2.2.1 | exact hf0.2 | exact hf0.2.2 | exact hf0.2.2.2 | exact hf0.2.2.2.2 | exact hf0.2.2.2.2.2 | exact hf0.2.2.2.2.2.2 | exact hf0.2.2.2.2.2.2.2 | exact hf0.2.2.2.2.2.2.2.2 | exact hf0.2.2.2.2.2.2.2.2.2 | exact hf0.2.2.2.2.2.2.2.2.2.2 | exact hf0.2.2.2.2.2.2.2.2.2.2.2 | exact hf0.2.2.2.2.2.2.2.2.2.2.2.2 | exact hf0.2.2.2.2.2.2.2.2.2.2.2.2.2 | exact hf1 | exact hf1.1 | exact hf1.2.1 | exact hf1.2.2.1 | exact hf1.2.2.2.1 | exact hf1.2.2.2.2.1 | exact hf1.2.2.2.2.2.1 | exact hf1.2.2.2.2.2.2.1 | exact hf1.2.2.2.2.2.2.2.1 | exact hf1.2.2.2.2.2.2.2.2.1 | exact hf1.2.2.2.2.2.2.2.2.2.1 | exact hf1.2.2.2.2.2.2.2.2.2.2.1 | exact hf1.2.2.2.2.2.2.2.2.2.2.2.1 | exact hf1.2.2.2.2.2.2.2.2.2.2.2.2.1 | exact hf1.2.2.2.2.2.2.2.2.2.2.2.2.2.1 | exact hf1.2 | exact hf1.2.2 | exact hf1.2.2.2 | exact hf1.2.2.2.2 | exact hf1.2.2.2.2.2 | exact hf1.2.2.2.2.2.2 | exact hf1.2.2.2.2.2.2.2 | exact hf1.2.2.2.2.2.2.2.2 | exact hf1.2.2.2.2.2.2.2.2.2 | exact hf1.2.2.2.2.2.2.2.2.2.2 | exact hf1.2.2.2.2.2.2.2.2.2.2.2 | exact hf1.2.2.2.2.2.2.2.2.2.2.2.2 | exact hf1.2.2.2.2.2.2.2.2.2.2.2.2.2)
              case hs4 =>
                repeat' (first
                  | exact FSteps.nil
                  | refine FSteps.cons ?_ ?_
                  | (refine FStep.off_ _ _ _ rfl rfl ?_ (fun _ => rfl) ?_; (focus (intro u w hd; simp [vOf, is, Region.binds] at hd; simp [hd])); (intro w'; exact rfl); done)
                  | ((first
                      | refine FStep.plain rfl ?_
                      | (refine FStep.on_ _ _ _ rfl rfl ?_ ?_; (focus (intro u w hd; simp [vOf, is, Region.binds] at hd; simp [hd]))))
                     intro u w hW hC hd K hK
                     (try simp [vOf, is, Region.binds] at hd)
                     simp only [upd, Nat.reduceEqDiff, if_true, if_false] at hK
                     (try simp only [hd] at hK)
                     go_simp
                     (first
                       | (refine hK _ _ ?_ ?_; (first | exact rfl); (repeat (first | exact Ext.refl _ | assumption | apply Ext.alloc | apply Ext.drew | apply Ext.drewN | (refine Ext.trans ?_ (by assumption)))))
                       | (go_at_call 49; refine (turn_any _ _ _ _ _ _ _).mono ?_; rintro e w1 ⟨rfl, hb⟩; (try go_simp); refine hK _ _ ?_ ?_; (first | exact rfl); (repeat (first | exact Ext.refl _ | assumption | apply Ext.alloc | apply Ext.drew | apply Ext.drewN | (refine Ext.trans ?_ (by assumption))))))))
              case hV4 => (simp only [List.forall_mem_cons]; simp [stable_is])
              case fin4 =>
                intro u w2 hW2 hC2 hd
                simp only [AllV, is] at hd
                simp only [hd]
                clear hd
                clear hC2 fb fq
                go_wp2
                go_roundw
                case rel => exact ⟨k + 1, by omega, by go_num, by first | (rw [HC.out]; done) | (rw [HC.out]; rfl), by (repeat (first | exact Ext.refl _ | assumption | apply Ext.alloc | apply Ext.drew | apply Ext.drewN | (refine Ext.trans ?_ (by assumption)))), fun j hj => by by_cases e : j = k; (subst e; exact HO.out); exact HN.out j (by omega)⟩
                case measure => simp [intOf]; omega
            · have HC := hide (show parTo (crI l px py) (k + 1) = parTo (crI l px py) k by rw [parTo_succ]; unfold crI turnE; rw [e1, e2, e3, e4]; rfl)
              refine wp_flow (by kernel_rfl) (by kernel_rfl) (fun u => ⟨#[_, _, _, _, _, _, _, _, _, _, _, _, _, _, _, _, _, _, _, _, _, _, _, _, _, _, _, _, u 0, u 1, u 2, u 3, u 4, u 5, u 6, u 7, u 8, u 9, u 10, u 11, u 12, u 13, u 14, u 15, u 16, u 17, u 18, u 19, u 20, u 21, u 22, u 23, _, _, _, _], _⟩) (fun i => List.getD [_, _, _, _, _, _, _, _, _, _, _, _, _, _, _, _, _, _, _, _, _, _, _, _] i undef) [is ?v5_0, is ?v5_1, is ?v5_2, is ?v5_3, is ?v5_4, is ?v5_5, is ?v5_6, is ?v5_7, is ?v5_8, is ?v5_9, is ?v5_10, is ?v5_11, is ?v5_12, is ?v5_13, is ?v5_14, is ?v5_15, is ?v5_16, is ?v5_17, is ?v5_18, is ?v5_19, is ?v5_20, is ?v5_21, is ?v5_22, is ?v5_23] (fun w' => w'.cell? ⟨w.heap.size, 0, none⟩ = some (.int .i64 px) ∧ w'.cell? ⟨w.heap.size, 1, none⟩ = some (.int .i64 py) ∧ w.heap.size < w'.heap.size ∧ w'.cell? ⟨wq.heap.size, 0, none⟩ = some (.int .i64 (gx l k)) ∧ w'.cell? ⟨wq.heap.size, 1, none⟩ = some (.int .i64 (gy l k)) ∧ wq.heap.size < w'.heap.size ∧ w'.cell? ⟨wq.heap.size + 1, 0, none⟩ = some (.int .i64 (gx l ((k + 1) % l.length))) ∧ w'.cell? ⟨wq.heap.size + 1, 1, none⟩ = some (.int .i64 (gy l ((k + 1) % l.length))) ∧ wq.heap.size + 1 < w'.heap.size) _ rfl ?hC5 ?hs5 ?hV5 ?fin5
              case hC5 => exact fun w' hx => (by have hq : Ext _ w' := hx; have hf0 := HB.out w' (by (repeat (first | exact Ext.refl _ | assumption | apply Ext.alloc | apply Ext.drew | apply Ext.drewN | (refine Ext.trans ?_ (by assumption))))); have hf1 := HQ.out w' (by (repeat (first | exact Ext.refl _ | assumption | apply Ext.alloc | apply Ext.drew | apply Ext.drewN | (refine Ext.trans ?_ (by assumption))))); and_intros <;> first | exact hf0 | exact hf0.1 | exact hf0.2.1 | exact hf0.2.2.1 | exact hf0.2.2.2.1 | exact hf0.2.2.2.2.1 | exact hf0.2.2.2.2.2.1 | exact hf0.2.2.2.2.2.2.1 | exact hf0.2.2.2.2.2.2.2.1 | exact hf0.2.2.2.2.2.2.2.2.1 | exact hf0.2.2.2.2.2.2.2.2.2.1 | exact hf0.2.2.2.2.2.2.2.2.2.2.1 | exact hf0.2.2.2.2.2.2.2.2.2.2.2.1 | exact hf0.2.2.2.2.2.2.2.2.2.2.2.2.1 | exact hf0.2.2.2.2.2.2.2.2.2.2.2.2.2.1 | exact hf0.2 | exact hf0.2.2 | exact hf0.2.2.2 | exact hf0.2.2.2.2 | exact hf0.2.2.2.2.2 | exact hf0.2.2.2.2.2.2 | exact hf0.2.2.2.2.2.2.2 | exact hf0.2.2.2.2.2.2.2.2 | exact hf0.2.2.2.2.2.2.2.2.2 | exact hf0.2.2.2.2.2.2.2.2.2.2 | exact hf0.2.2.2.2.2.2.2.2.2.2.2 | exact hf0.2.2.2.2.2.2.2.2.2.2.2.2 | exact hf0.2.2.2.2.2.2.2.2.2.2.2.2.2 | exact hf1 | exact hf1.1 | exact hf1.2.1 | exact hf1.2.2.1 | exact hf1.2.2.2.1 | exact hf1.2.2.2.2.1 | exact hf1.2.2.2.2.2.1 | exact hf1.2.2.2.2.2.2.1 | exact hf1.2.2.2.2.2.2.2.1 | exact hf1.2.2.2.2.2.2.2.2.1 | exact hf1.2.2.2.2.2.2.2.2.2.1 | exact hf1.2.2.2.2.2.2.2.2.2.2.1 | exact hf1.2.2.2.2.2.2.2.2.2.2.2.1 | exact hf1.2.2.2.2.2.2.2.2.2.2.2.2.1 | exact hf1.2.2.2.2.2.2.2.2.2.2.2.2.2.1 | exact hf1.2 | exact hf1.2.2 | exact hf1.2.2.2 | exact hf1.2.2.2.2 | exact hf1.2.2.2.2.2 | exact hf1.2.2.2.2.2.2 | exact hf1.2.2.2.2.2.2.2 | exact hf1.2.2.2.2.2.2.2.2 | exact hf1.2.2.2.2.2.2.2.2.2 | exact hf1.2.2.2.2.2.2.2.2.2.2 | exact hf1.2.2.2.2.2.2.2.2.2.2.2 | exact hf1.2.2.2.2.2.2.2.2.2.2.2.2 | exact hf1.2.2.2.2.2.2.2.2.2.2.2.2.2)
              case hs5 =>
                repeat' (first
                  | exact FSteps.nil
                  | refine FSteps.cons ?_ ?_
                  | (refine FStep.off_ _ _ _ rfl rfl ?_ (fun _ => rfl) ?_; (focus (intro u w hd; simp [vOf, is, Region.binds] at hd; simp [hd])); (intro w'; exact rfl); done)
                  | ((first
                      | refine FStep.plain rfl ?_
                      | (refine FStep.on_ _ _ _ rfl rfl ?_ ?_; (focus (intro u w hd; simp [vOf, is, Region.binds] at hd; simp [hd]))))
                     intro u w hW hC hd K hK
                     (try simp [vOf, is, Region.binds] at hd)
                     simp only [upd, Nat.reduceEqDiff, if_true, if_false] at hK
                     (try simp only [hd] at hK)
                     go_simp
                     (first
                       | (refine hK _ _ ?_ ?_; (first | exact rfl); (repeat (first | exact Ext.refl _ | assumption | apply Ext.alloc | apply Ext.drew | apply Ext.drewN | (refine Ext.trans ?_ (by assumption)))))
                       | (go_at_call 49; refine (turn_any _ _ _ _ _ _ _).mono ?_; rintro e w1 ⟨rfl, hb⟩; (try go_simp); refine hK _ _ ?_ ?_; (first | exact rfl); (repeat (first | exact Ext.refl _ | assumption | apply Ext.alloc | apply Ext.drew | apply Ext.drewN | (refine Ext.trans ?_ (by assumption))))))))
              case hV5 => (simp only [List.forall_mem_cons]; simp [stable_is])
              case fin5 =>
                intro u w2 hW2 hC2 hd
                simp only [AllV, is] at hd
                simp only [hd]
                clear hd
                clear hC2 fb fq
                go_wp2
                go_roundw
                case rel => exact ⟨k + 1, by omega, by go_num, by first | (rw [HC.out]; done) | (rw [HC.out]; rfl), by (repeat (first | exact Ext.refl _ | assumption | apply Ext.alloc | apply Ext.drew | apply Ext.drewN | (refine Ext.trans ?_ (by assumption)))), fun j hj => by by_cases e : j = k; (subst e; exact HO.out); exact HN.out j (by omega)⟩
                case measure => simp [intOf]; omega
          · have HC := hide (show parTo (crI l px py) (k + 1) = parTo (crI l px py) k by rw [parTo_succ]; unfold crI ; rw [e1, e2]; rfl)
            refine wp_flow (by kernel_rfl) (by kernel_rfl) (fun u => ⟨#[_, _, _, _, _, _, _, _, _, _, _, _, _, _, _, _, _, _, _, _, _, _, _, _, _, _, _, _, u 0, u 1, u 2, u 3, u 4, u 5, u 6, u 7, u 8, u 9, u 10, u 11, u 12, u 13, u 14, u 15, u 16, u 17, u 18, u 19, u 20, u 21, u 22, u 23, _, _, _, _], _⟩) (fun i => List.getD [_, _, _, _, _, _, _, _, _, _, _, _, _, _, _, _, _, _, _, _, _, _, _, _] i undef) [is ?v6_0, is ?v6_1, is ?v6_2, is ?v6_3, is ?v6_4, is ?v6_5, is ?v6_6, is ?v6_7, is ?v6_8, is ?v6_9, is ?v6_10, is ?v6_11, is ?v6_12, is ?v6_13, is ?v6_14, is ?v6_15, is ?v6_16, is ?v6_17, is ?v6_18, is ?v6_19, is ?v6_20, is ?v6_21, is ?v6_22, is ?v6_23] (fun w' => w'.cell? ⟨w.heap.size, 0, none⟩ = some (.int .i64 px) ∧ w'.cell? ⟨w.heap.size, 1, none⟩ = some (.int .i64 py) ∧ w.heap.size < w'.heap.size ∧ w'.cell? ⟨wq.heap.size, 0, none⟩ = some (.int .i64 (gx l k)) ∧ w'.cell? ⟨wq.heap.size, 1, none⟩ = some (.int .i64 (gy l k)) ∧ wq.heap.size < w'.heap.size ∧ w'.cell? ⟨wq.heap.size + 1, 0, none⟩ = some (.int .i64 (gx l ((k + 1) % l.length))) ∧ w'.cell? ⟨wq.heap.size + 1, 1, none⟩ = some (.int .i64 (gy l ((k + 1) % l.length))) ∧ wq.heap.size + 1 < w'.heap.size) _ rfl ?hC6 ?hs6 ?hV6 ?fin6
            case hC6 => exact fun w' hx => (by have hq : Ext _ w' := hx; have hf0 := HB.out w' (by (repeat (first | exact Ext.refl _ | assumption | apply Ext.alloc | apply Ext.drew | apply Ext.drewN | (refine Ext.trans ?_ (by assumption))))); have hf1 := HQ.out w' (by (repeat (first | exact Ext.refl _ | assumption | apply Ext.alloc | apply Ext.drew | apply Ext.drewN | (refine Ext.trans ?_ (by assumption))))); and_intros <;> first | exact hf0 | exact hf0.1 | exact hf0.2.1 | exact hf0.2.2.1 | exact hf0.2.2.2.1 | exact hf0.2.2.2.2.1 | exact hf0.2.2.2.2.2.1 | exact hf0.2.2.2.2.2.2.1 | exact hf0.2.2.2.2.2.2.2.1 | exact hf0.2.2.2.2.2.2.2.2.1 | exact hf0.2.2.2.2.2.2.2.2.2.1 | exact hf0.2.2.2.2.2.2.2.2.2.2.1 | exact hf0.2.2.2.2.2.2.2.2.2.2.2.1 | exact hf0.2.2.2.2.2.2.2.2.2.2.2.2.1 | exact hf0.2.2.2.2.2.2.2.2.2.2.2.2.2.1 | exact hf0.2 | exact hf0.2.2 | exact hf0.2.2.2 | exact hf0.2.2.2.2 | exact hf0.2.2.2.2.2 | exact hf0.2.2.2.2.2.2 | exact hf0.2.2.2.2.2.2.2 | exact hf0.2.2.2.2.2.2.2.2 | exact hf0.2.2.2.2.2.2.2.2.2 | exact hf0.2.2.2.2.2.2.2.2.2.2 | exact hf0.2.2.2.2.2.2.2.2.2.2.2 | exact hf0.2.2.2.2.2.2.2.2.2.2.2.2 | exact hf0.2.2.2.2.2.2.2.2.2.2.2.2.2 | exact hf1 | exact hf1.1 | exact hf1.2.1 | exact hf1.2.2.1 | exact hf1.2.2.2.1 | exact hf1.2.2.2.2.1 | exact hf1.2.2.2.2.2.1 | exact hf1.2.2.2.2.2.2.1 | exact hf1.2.2.2.2.2.2.2.1 | exact hf1.2.2.2.2.2.2.2.2.1 | exact hf1.2.2.2.2.2.2.2.2.2.1 | exact hf1.2.2.2.2.2.2.2.2.2.2.1 | exact hf1.2.2.2.2.2.2.2.2.2.2.2.1 | exact hf1.2.2.2.2.2.2.2.2.2.2.2.2.1 | exact hf1.2.2.2.2.2.2.2.2.2.2.2.2.2.1 | exact hf1.2 | exact hf1.2.2 | exact hf1.2.2.2 | exact hf1.2.2.2.2 | exact hf1.2.2.2.2.2 | exact hf1.2.2.2.2.2.2 | exact hf1.2.2.2.2.2.2.2 | exact hf1.2.2.2.2.2.2.2.2 | exact hf1.2.2.2.2.2.2.2.2.2 | exact hf1.2.2.2.2.2.2.2.2.2.2 | exact hf1.2.2.2.2.2.2.2.2.2.2.2 | exact hf1.2.2.2.2.2.2.2.2.2.2.2.2 | exact hf1.2.2.2.2.2.2.2.2.2.2.2.2.2)
            case hs6 =>
              repeat' (first
                | exact FSteps.nil
                | refine FSteps.cons ?_ ?_
                | (refine FStep.off_ _ _ _ rfl rfl ?_ (fun _ => rfl) ?_; (focus (intro u w hd; simp [vOf, is, Region.binds] at hd; simp [hd])); (intro w'; exact rfl); done)
                | ((first
                    | refine FStep.plain rfl ?_
                    | (refine FStep.on_ _ _ _ rfl rfl ?_ ?_; (focus (intro u w hd; simp [vOf, is, Region.binds] at hd; simp [hd]))))
                   intro u w hW hC hd K hK
                   (try simp [vOf, is, Region.binds] at hd)
                   simp only [upd, Nat.reduceEqDiff, if_true, if_false] at hK
                   (try simp only [hd] at hK)
                   go_simp
                   (first
                     | (refine hK _ _ ?_ ?_; (first | exact rfl); (repeat (first | exact Ext.refl _ | assumption | apply Ext.alloc | apply Ext.drew | apply Ext.drewN | (refine Ext.trans ?_ (by assumption)))))
                     | (go_at_call 49; refine (turn_any _ _ _ _ _ _ _).mono ?_; rintro e w1 ⟨rfl, hb⟩; (try go_simp); refine hK _ _ ?_ ?_; (first | exact rfl); (repeat (first | exact Ext.refl _ | assumption | apply Ext.alloc | apply Ext.drew | apply Ext.drewN | (refine Ext.trans ?_ (by assumption))))))))
            case hV6 => (simp only [List.forall_mem_cons]; simp [stable_is])
            case fin6 =>
              intro u w2 hW2 hC2 hd
              simp only [AllV, is] at hd
              simp only [hd]
              clear hd
              clear hC2 fb fq
              go_wp2
              go_roundw
              case rel => exact ⟨k + 1, by omega, by go_num, by first | (rw [HC.out]; done) | (rw [HC.out]; rfl), by (repeat (first | exact Ext.refl _ | assumption | apply Ext.alloc | apply Ext.drew | apply Ext.drewN | (refine Ext.trans ?_ (by assumption)))), fun j hj => by by_cases e : j = k; (subst e; exact HO.out); exact HN.out j (by omega)⟩
              case measure => simp [intOf]; omega
      · have HO := hide (placeV_on hlt ho)
        unfold onE at ho
        go_wp2_with (go_at_call 41; refine (on_any _ _ _ _ _ _ _).mono ?_; rintro e w1 ⟨rfl, hb1⟩)
        go_ret
        exact ⟨ret_int (by rw [HO.out]), by (repeat (first | exact Ext.refl _ | assumption | apply Ext.alloc | apply Ext.drew | apply Ext.drewN | (refine Ext.trans ?_ (by assumption))))⟩
    · have e : k = l.length := by omega
      have E := hide e
      clear e
      have HV := hide (placeV_off (fun j hj => HN.out j (by omega)))
      cases hpar : parTo (crI l px py) k
      all_goals
        have HP := hide hpar
        go_wp2
        go_ret
        exact ⟨ret_int (by rw [HV.out, ← E.out, HP.out]; rfl), by (repeat (first | exact Ext.refl _ | assumption | apply Ext.alloc | apply Ext.drew | apply Ext.drewN | (refine Ext.trans ?_ (by assumption))))⟩

/-- PlaceIn, as both texts give it -/
def placeInV (l : List (Int × Int)) (px py : Int) : Int := if pok px py = true then (if roomB l = true then placeV l px py else 0) else 0

theorem place_fine {l : List (Int × Int)} {px py : Int} (hr : roomB l = true) (hq : pok px py = true) : placeV l px py = holdsV l px py + 1 :=
  place_holds (roomB_fine hr).1.small (within_more (within_of_pok hq) (by omega))
theorem holdsV_bd (l : List (Int × Int)) (px py : Int) : holdsV l px py = -1 ∨ holdsV l px py = 0 ∨ holdsV l px py = 1 := by
  unfold holdsV
  split
  · exact .inr (.inl rfl)
  · cases parTo (crS l px py) l.length
    · exact .inl rfl
    · exact .inr (.inr rfl)

set_option maxHeartbeats 800000 in
theorem PlaceIn_any (A : Option Addr) (l : List (Int × Int)) (c : Nat) (px py : Int) (w : World) (hp : RPts w A l) (hn : l.length ≤ 1048576) :
    Calls Try.prog 21 #[.agg #[.slice A l.length c], .agg #[.int .i64 px, .int .i64 py]] w fun e w' => e = .returned (.int .i64 (placeInV l px py)) ∧ Ext w w' := by
  have HB : Hid (∀ w', Ext ((w.alloc (.cells #[.slice A l.length c] 26)).alloc (.cells #[.int .i64 px, .int .i64 py] 38)) w' → w'.cell? ⟨w.heap.size, 0, none⟩ = some (.slice A l.length c) ∧ w.heap.size < w'.heap.size ∧ w'.cell? ⟨w.heap.size + 1, 0, none⟩ = some (.int .i64 px) ∧ w'.cell? ⟨w.heap.size + 1, 1, none⟩ = some (.int .i64 py) ∧ w.heap.size + 1 < w'.heap.size) := fun w' hx => by
    and_intros <;> (first | (have hz := hx.size; simp at hz; omega) | ((first | rw [hx.cells _ _ (by first | (simp; done) | (simp; omega))] | rw [hx.frozens _ _ (by first | (simp; done) | (simp; omega))]); (first | (simp [go_sem]; done) | (simp [go_sem, World.cell?_alloc_past]; done) | (simp [go_sem, World.frozen?]; done))))
  unfold placeInV
  cases hq : pok px py
  · go_enter Try.func21, Try.ntmps21
    go_wp2_with ((go_at_call 39; refine (pok_any _ _ _).mono ?_; rintro e w1 ⟨rfl, hb⟩; have hcc := HB.out w1 (by (repeat (first | exact Ext.refl _ | assumption | apply Ext.alloc | apply Ext.drew | apply Ext.drewN | (refine Ext.trans ?_ (by assumption)))))))
    go_ret
    exact ⟨rfl, by (repeat (first | exact Ext.refl _ | assumption | apply Ext.alloc | apply Ext.drew | apply Ext.drewN | (refine Ext.trans ?_ (by assumption))))⟩
  · cases hr : roomB l
    all_goals
      go_enter Try.func21, Try.ntmps21
      go_wp2_with (first | (go_at_call 39; refine (pok_any _ _ _).mono ?_; rintro e w1 ⟨rfl, hb⟩; have h1 := HB.out w1 (by (repeat (first | exact Ext.refl _ | assumption | apply Ext.alloc | apply Ext.drew | apply Ext.drewN | (refine Ext.trans ?_ (by assumption)))))) | (go_at_call 29; refine (RoomOk_any _ _ _ _ (hp.ext (by (repeat (first | exact Ext.refl _ | assumption | apply Ext.alloc | apply Ext.drew | apply Ext.drewN | (refine Ext.trans ?_ (by assumption)))))) hn).mono ?_; rintro e w2 ⟨rfl, hb2⟩; have h2 := HB.out w2 (by (repeat (first | exact Ext.refl _ | assumption | apply Ext.alloc | apply Ext.drew | apply Ext.drewN | (refine Ext.trans ?_ (by assumption)))))) | (go_at_call 40; refine (place_any _ _ _ _ _ _ (hp.ext (by (repeat (first | exact Ext.refl _ | assumption | apply Ext.alloc | apply Ext.drew | apply Ext.drewN | (refine Ext.trans ?_ (by assumption)))))) hn).mono ?_; rintro e w3 ⟨rfl, hb3⟩))
      go_ret
      exact ⟨rfl, by (repeat (first | exact Ext.refl _ | assumption | apply Ext.alloc | apply Ext.drew | apply Ext.drewN | (refine Ext.trans ?_ (by assumption))))⟩

/-- IsIn, as both texts give it -/
def isInV (l : List (Int × Int)) (px py : Int) : Bool := placeInV l px py != 0

set_option maxHeartbeats 800000 in
theorem IsIn_any (A : Option Addr) (l : List (Int × Int)) (c : Nat) (px py : Int) (w : World) (hp : RPts w A l) (hn : l.length ≤ 1048576) :
    Calls Try.prog 24 #[.agg #[.slice A l.length c], .agg #[.int .i64 px, .int .i64 py]] w fun e w' => e = .returned (.bool (isInV l px py)) ∧ Ext w w' := by
  unfold isInV
  go_enter Try.func24, Try.ntmps24
  go_wp2_with (go_at_call 21; refine (PlaceIn_any _ _ _ _ _ _ (hp.ext (by (repeat (first | exact Ext.refl _ | assumption | apply Ext.alloc | apply Ext.drew | apply Ext.drewN | (refine Ext.trans ?_ (by assumption)))))) hn).mono ?_; rintro e w1 ⟨rfl, hb⟩)
  go_ret
  exact ⟨rfl, by (repeat (first | exact Ext.refl _ | assumption | apply Ext.alloc | apply Ext.drew | apply Ext.drewN | (refine Ext.trans ?_ (by assumption))))⟩

end Go.Proofs.Ytanagdlikoinaaa
