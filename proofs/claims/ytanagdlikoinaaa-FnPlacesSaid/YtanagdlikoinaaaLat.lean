/-
  Contracts: whole points on a wall.
-/
import Derived.Test.YtanagdlikoinaaaJ2
import Derived.Test.YtanagdlikoinaaaJ1
namespace Go.Proofs.Ytanagdlikoinaaa
open Go.RowKit

/-- LatticeSteps, as both texts give it -/
def latV (a b c d : Int) : Int := if wok a b c d = true then (Nat.gcd (a - c).natAbs (b - d).natAbs : Int) else 0

theorem wok_bd {a b c d : Int} (h : wok a b c d = true) : ((-40 ≤ a ∧ a ≤ 40) ∧ (-40 ≤ b ∧ b ≤ 40)) ∧ ((-40 ≤ c ∧ c ≤ 40) ∧ (-40 ≤ d ∧ d ≤ 40)) ∧ (a ≠ c ∨ b ≠ d) := by
  unfold wok pok2 neB at h
  simp only [Bool.and_eq_true, Bool.not_eq_true', Bool.and_eq_false_iff, beq_eq_false_iff_ne] at h
  exact ⟨(pok_iff _ _).1 h.1.1, (pok_iff _ _).1 h.1.2, h.2⟩

theorem latV_bd (a b c d : Int) : 0 ≤ latV a b c d ∧ latV a b c d ≤ 80 := by
  unfold latV
  split
  · rename_i h
    obtain ⟨h1, h2, h3⟩ := wok_bd h
    refine ⟨by omega, ?_⟩
    have h4 : (a - c).natAbs ≤ 80 := by omega
    have h5 : (b - d).natAbs ≤ 80 := by omega
    rcases Nat.eq_zero_or_pos (a - c).natAbs with h0 | h0
    · rw [h0, Nat.gcd_zero_left]; omega
    · have := Nat.gcd_le_left (b - d).natAbs h0; omega
  · omega

theorem max_abs (x y : Int) : max (x - y) (y - x) = ((x - y).natAbs : Int) := by omega
theorem max_neg_abs (x : Int) : max x (-x) = (x.natAbs : Int) := by omega


set_option maxRecDepth 100000 in
set_option maxHeartbeats 4000000 in
theorem LatticeSteps_any (a b c d : Int) (w : World) :
    Calls Try.prog 35 #[.agg #[.int .i64 a, .int .i64 b, .int .i64 c, .int .i64 d]] w fun e w' => e = .returned (.int .i64 (latV a b c d)) ∧ Ext w w' := by
  have HB : Hid (∀ w', Ext (w.alloc (.cells #[.int .i64 a, .int .i64 b, .int .i64 c, .int .i64 d] 51)) w' → w'.cell? ⟨w.heap.size, 0, none⟩ = some (.int .i64 a) ∧ w'.cell? ⟨w.heap.size, 1, none⟩ = some (.int .i64 b) ∧ w'.cell? ⟨w.heap.size, 2, none⟩ = some (.int .i64 c) ∧ w'.cell? ⟨w.heap.size, 3, none⟩ = some (.int .i64 d) ∧ w.heap.size < w'.heap.size) := fun w' hx => by
    and_intros <;> (first | (have hz := hx.size; simp at hz; omega) | ((first | rw [hx.cells _ _ (by first | (simp; done) | (simp; omega))] | rw [hx.frozens _ _ (by first | (simp; done) | (simp; omega))]); (first | (simp [go_sem]; done) | (simp [go_sem, World.cell?_alloc_past]; done) | (simp [go_sem, World.frozen?]; done))))
  unfold latV
  cases h : wok a b c d
  · go_enter Try.func35, Try.ntmps35
    go_wp2_with ((go_at_call 51; refine (WallOk_any _ _ _ _ _).mono ?_; rintro e w1 ⟨rfl, hb⟩; have hcc := HB.out w1 (by (repeat (first | exact Ext.refl _ | assumption | apply Ext.alloc | apply Ext.drew | apply Ext.drewN | (refine Ext.trans ?_ (by assumption)))))))
    go_ret
    exact ⟨rfl, by (repeat (first | exact Ext.refl _ | assumption | apply Ext.alloc | apply Ext.drew | apply Ext.drewN | (refine Ext.trans ?_ (by assumption))))⟩
  · obtain ⟨⟨⟨a1, a2⟩, b1, b2⟩, ⟨⟨c1, c2⟩, d1, d2⟩, hne⟩ := wok_bd h
    have HNE := hide hne
    clear hne
    have z1 := wrap_in (a - c) (by omega) (by omega)
    have z2 := wrap_in (c - a) (by omega) (by omega)
    have z3 := wrap_in (b - d) (by omega) (by omega)
    have z4 := wrap_in (d - b) (by omega) (by omega)
    have hA : (a - c).natAbs ≤ 80 := by omega
    have hB : (b - d).natAbs ≤ 80 := by omega
    by_cases hx0 : a - c < c - a
    · by_cases hy0 : b - d < d - b
      · go_enter Try.func35, Try.ntmps35
        go_wp2_with ((go_at_call 51; refine (WallOk_any _ _ _ _ _).mono ?_; rintro e w1 ⟨rfl, hb⟩; have hcc := HB.out w1 (by (repeat (first | exact Ext.refl _ | assumption | apply Ext.alloc | apply Ext.drew | apply Ext.drewN | (refine Ext.trans ?_ (by assumption)))))))
        obtain ⟨wq, rfl⟩ : ∃ wq : World, wq = w1 := ⟨_, rfl⟩
        refine wp_flow (by kernel_rfl) (by kernel_rfl) (fun u => ⟨#[_, _, _, u 30, u 31, _, _, _, u 0, u 1, u 2, u 3, u 4, u 5, u 6, u 7, u 8, u 9, u 10, u 11, u 12, u 13, u 14, u 15, u 16, u 17, u 18, u 19, u 20, u 21, u 22, u 23, u 24, u 25, u 26, u 27, u 28, u 29, _, _, _, _, _, _, _], _⟩) (fun i => List.getD [_, _, _, _, _, _, _, _, _, _, _, _, _, _, _, _, _, _, _, _, _, _, _, _, _, _, _, _, _, _, _, _] i undef) [is ?v5_0, is ?v5_1, is ?v5_2, is ?v5_3, is ?v5_4, is ?v5_5, is ?v5_6, is ?v5_7, is ?v5_8, is ?v5_9, is ?v5_10, is ?v5_11, is ?v5_12, is ?v5_13, is ?v5_14, is ?v5_15, is ?v5_16, is ?v5_17, is ?v5_18, is ?v5_19, is ?v5_20, is ?v5_21, is ?v5_22, is ?v5_23, is ?v5_24, is ?v5_25, is ?v5_26, is ?v5_27, is ?v5_28, is ?v5_29, is ?v5_30, is ?v5_31] (fun w' => w'.cell? ⟨w.heap.size, 0, none⟩ = some (.int .i64 a) ∧ w'.cell? ⟨w.heap.size, 1, none⟩ = some (.int .i64 b) ∧ w'.cell? ⟨w.heap.size, 2, none⟩ = some (.int .i64 c) ∧ w'.cell? ⟨w.heap.size, 3, none⟩ = some (.int .i64 d) ∧ w.heap.size < w'.heap.size) _ rfl ?hC5 ?hs5 ?hV5 ?fin5
        case hC5 => exact fun w' hx => (by have hq : Ext _ w' := hx; have hf0 := HB.out w' (by (repeat (first | exact Ext.refl _ | assumption | apply Ext.alloc | apply Ext.drew | apply Ext.drewN | (refine Ext.trans ?_ (by assumption))))); and_intros <;> first | exact hf0 | exact hf0.1 | exact hf0.2.1 | exact hf0.2.2.1 | exact hf0.2.2.2.1 | exact hf0.2.2.2.2.1 | exact hf0.2.2.2.2.2.1 | exact hf0.2.2.2.2.2.2.1 | exact hf0.2.2.2.2.2.2.2.1 | exact hf0.2.2.2.2.2.2.2.2.1 | exact hf0.2.2.2.2.2.2.2.2.2.1 | exact hf0.2.2.2.2.2.2.2.2.2.2.1 | exact hf0.2.2.2.2.2.2.2.2.2.2.2.1 | exact hf0.2.2.2.2.2.2.2.2.2.2.2.2.1 | exact hf0.2.2.2.2.2.2.2.2.2.2.2.2.2.1 | exact hf0.2 | exact hf0.2.2 | exact hf0.2.2.2 | exact hf0.2.2.2.2 | exact hf0.2.2.2.2.2 | exact hf0.2.2.2.2.2.2 | exact hf0.2.2.2.2.2.2.2 | exact hf0.2.2.2.2.2.2.2.2 | exact hf0.2.2.2.2.2.2.2.2.2 | exact hf0.2.2.2.2.2.2.2.2.2.2 | exact hf0.2.2.2.2.2.2.2.2.2.2.2 | exact hf0.2.2.2.2.2.2.2.2.2.2.2.2 | exact hf0.2.2.2.2.2.2.2.2.2.2.2.2.2)
        case hs5 =>
          repeat' (first
            | exact FSteps.nil
            | refine FSteps.cons ?_ ?_
            | (refine FStep.off_ _ _ _ rfl rfl ?_ (fun _ => rfl) ?_; (focus (intro u w hd; simp [vOf, is, Region.binds] at hd; simp [hd])); (intro w'; exact rfl); done)
            | ((first
                | refine FStep.plain rfl ?_
                | (refine FStep.on_ _ _ _ rfl rfl ?_ ?_; (focus (intro u w hd; simp [vOf, is, Region.binds] at hd; simp [hd]))))
               intro u w hW hC hd K hK
               (try simp [vOf, is, Region.binds] at hd)
               simp only [upd, Nat.reduceEqDiff, if_true, if_false] at hK
               (try simp only [hd] at hK)
               go_simp
               (first
                 | (refine hK _ _ ?_ ?_; (first | exact rfl); (repeat (first | exact Ext.refl _ | assumption | apply Ext.alloc | apply Ext.drew | apply Ext.drewN | (refine Ext.trans ?_ (by assumption))))))))
        case hV5 => (simp only [List.forall_mem_cons]; simp [stable_is])
        case fin5 =>
          intro u w2 hW2 hC2 hd
          simp only [AllV, is] at hd
          simp only [hd]
          clear hd
          clear z1 z2 z3 z4 hC2 hcc
          have hxw : Ext w w2 := by (repeat (first | exact Ext.refl _ | assumption | apply Ext.alloc | apply Ext.drew | apply Ext.drewN | (refine Ext.trans ?_ (by assumption))))
          obtain ⟨wo, rfl⟩ : ∃ wo : World, wo = w2 := ⟨_, rfl⟩
          clear hb hW2
          go_wp2
          go_loopw [3, 4] (fun u v wr => ∃ i j : Nat, u = .int .i64 i ∧ v = .int .i64 j ∧ i ≤ 1000 ∧ j ≤ 1000 ∧ Hid (Nat.gcd i j = Nat.gcd (a - c).natAbs (b - d).natAbs) ∧ Ext w wr) (fun _ v _ => (intOf v).toNat)
          case atStart => exact ⟨(a - c).natAbs, (b - d).natAbs, by first | rfl | (congr 1; omega), by first | rfl | (congr 1; omega), by omega, by omega, rfl, hxw⟩
          case round =>
            obtain ⟨i, j, rfl, rfl, hi, hj, HG, hbl⟩ := hrel
            by_cases hlt : 0 < j
            · have hmod : i % j < j := Nat.mod_lt _ hlt
              have hb1 : j ≠ 0 := by omega
              have hb0 : ((j : Int) != 0) = true := by simp; omega
              have q2 : (i : Int).tmod (j : Int) = ((i % j : Nat) : Int) := by rw [Int.tmod_eq_emod_of_nonneg (by omega)]; omega
              have HS := hide (show Nat.gcd j (i % j) = Nat.gcd (a - c).natAbs (b - d).natAbs by rw [← HG.out, Nat.gcd_comm i j, Nat.gcd_rec j i, Nat.gcd_comm])
              go_wp2
              refine wp_late (by kernel_rfl) (by kernel_rfl) (fun u => ⟨#[_, _, _, u 4, u 5, _, _, _, _, _, _, _, _, _, _, _, _, _, _, _, _, _, _, _, _, _, _, _, _, _, _, _, _, _, _, _, _, _, _, _, u 0, u 1, u 2, u 3, _], _⟩) (fun i => List.getD [_, _, _, _, _, _] i undef) [is ?v6_0, is ?v6_1, is ?v6_2, is ?v6_3, is ?v6_4, is ?v6_5] (fun w' => True) _ rfl ?hC6 ?hs6 ?hV6 ?fin6
              case hC6 => exact fun _ _ => trivial
              case hs6 =>
                repeat' (first
                  | exact LSteps.nil
                  | refine LSteps.cons ?_ ?_
                  | ((first
                      | refine LStep.plain rfl ?_)
                     intro u w hW hC hd hu K hK
                     (try (have hl4 := hu 4 (by decide +kernel); simp at hl4; (try simp only [upd, Nat.reduceEqDiff, if_true, if_false] at hK); simp only [hl4] at hK ⊢))
                     (try (have hl5 := hu 5 (by decide +kernel); simp at hl5; (try simp only [upd, Nat.reduceEqDiff, if_true, if_false] at hK); simp only [hl5] at hK ⊢))
                     (try simp [vOf, is, Region.binds] at hd)
                     (try simp only [upd, Nat.reduceEqDiff, if_true, if_false] at hK)
                     (try simp only [hd] at hK)
                     go_simp
                     (first
                       | (refine hK _ _ ?_ ?_; (first | exact rfl); (repeat (first | exact Ext.refl _ | assumption | apply Ext.alloc | apply Ext.drew | apply Ext.drewN | (refine Ext.trans ?_ (by assumption))))))))
              case hV6 => (simp only [List.forall_mem_cons]; simp [stable_is])
              case fin6 =>
                intro u w2 hW2 hC2 hd
                simp only [AllV, is] at hd
                simp only [hd]
                clear hd
                clear q2
                go_wp2
                go_roundw
                case rel => exact ⟨j, i % j, by first | rfl | trivial, by first | rfl | trivial, by omega, by omega, HS.out, by (repeat (first | exact Ext.refl _ | assumption | apply Ext.alloc | apply Ext.drew | apply Ext.drewN | (refine Ext.trans ?_ (by assumption))))⟩
                case measure => simp [intOf]; omega
            · have e : j = 0 := by omega
              subst e
              go_wp2
              go_ret
              exact ⟨ret_int (by rw [← HG.out, Nat.gcd_zero_right]), hbl⟩
      · go_enter Try.func35, Try.ntmps35
        go_wp2_with ((go_at_call 51; refine (WallOk_any _ _ _ _ _).mono ?_; rintro e w1 ⟨rfl, hb⟩; have hcc := HB.out w1 (by (repeat (first | exact Ext.refl _ | assumption | apply Ext.alloc | apply Ext.drew | apply Ext.drewN | (refine Ext.trans ?_ (by assumption)))))))
        obtain ⟨wq, rfl⟩ : ∃ wq : World, wq = w1 := ⟨_, rfl⟩
        refine wp_flow (by kernel_rfl) (by kernel_rfl) (fun u => ⟨#[_, _, _, u 30, u 31, _, _, _, u 0, u 1, u 2, u 3, u 4, u 5, u 6, u 7, u 8, u 9, u 10, u 11, u 12, u 13, u 14, u 15, u 16, u 17, u 18, u 19, u 20, u 21, u 22, u 23, u 24, u 25, u 26, u 27, u 28, u 29, _, _, _, _, _, _, _], _⟩) (fun i => List.getD [_, _, _, _, _, _, _, _, _, _, _, _, _, _, _, _, _, _, _, _, _, _, _, _, _, _, _, _, _, _, _, _] i undef) [is ?v7_0, is ?v7_1, is ?v7_2, is ?v7_3, is ?v7_4, is ?v7_5, is ?v7_6, is ?v7_7, is ?v7_8, is ?v7_9, is ?v7_10, is ?v7_11, is ?v7_12, is ?v7_13, is ?v7_14, is ?v7_15, is ?v7_16, is ?v7_17, is ?v7_18, is ?v7_19, is ?v7_20, is ?v7_21, is ?v7_22, is ?v7_23, is ?v7_24, is ?v7_25, is ?v7_26, is ?v7_27, is ?v7_28, is ?v7_29, is ?v7_30, is ?v7_31] (fun w' => w'.cell? ⟨w.heap.size, 0, none⟩ = some (.int .i64 a) ∧ w'.cell? ⟨w.heap.size, 1, none⟩ = some (.int .i64 b) ∧ w'.cell? ⟨w.heap.size, 2, none⟩ = some (.int .i64 c) ∧ w'.cell? ⟨w.heap.size, 3, none⟩ = some (.int .i64 d) ∧ w.heap.size < w'.heap.size) _ rfl ?hC7 ?hs7 ?hV7 ?fin7
        case hC7 => exact fun w' hx => (by have hq : Ext _ w' := hx; have hf0 := HB.out w' (by (repeat (first | exact Ext.refl _ | assumption | apply Ext.alloc | apply Ext.drew | apply Ext.drewN | (refine Ext.trans ?_ (by assumption))))); and_intros <;> first | exact hf0 | exact hf0.1 | exact hf0.2.1 | exact hf0.2.2.1 | exact hf0.2.2.2.1 | exact hf0.2.2.2.2.1 | exact hf0.2.2.2.2.2.1 | exact hf0.2.2.2.2.2.2.1 | exact hf0.2.2.2.2.2.2.2.1 | exact hf0.2.2.2.2.2.2.2.2.1 | exact hf0.2.2.2.2.2.2.2.2.2.1 | exact hf0.2.2.2.2.2.2.2.2.2.2.1 | exact hf0.2.2.2.2.2.2.2.2.2.2.2.1 | exact hf0.2.2.2.2.2.2.2.2.2.2.2.2.1 | exact hf0.2.2.2.2.2.2.2.2.2.2.2.2.2.1 | exact hf0.2 | exact hf0.2.2 | exact hf0.2.2.2 | exact hf0.2.2.2.2 | exact hf0.2.2.2.2.2 | exact hf0.2.2.2.2.2.2 | exact hf0.2.2.2.2.2.2.2 | exact hf0.2.2.2.2.2.2.2.2 | exact hf0.2.2.2.2.2.2.2.2.2 | exact hf0.2.2.2.2.2.2.2.2.2.2 | exact hf0.2.2.2.2.2.2.2.2.2.2.2 | exact hf0.2.2.2.2.2.2.2.2.2.2.2.2 | exact hf0.2.2.2.2.2.2.2.2.2.2.2.2.2)
        case hs7 =>
          repeat' (first
            | exact FSteps.nil
            | refine FSteps.cons ?_ ?_
            | (refine FStep.off_ _ _ _ rfl rfl ?_ (fun _ => rfl) ?_; (focus (intro u w hd; simp [vOf, is, Region.binds] at hd; simp [hd])); (intro w'; exact rfl); done)
            | ((first
                | refine FStep.plain rfl ?_
                | (refine FStep.on_ _ _ _ rfl rfl ?_ ?_; (focus (intro u w hd; simp [vOf, is, Region.binds] at hd; simp [hd]))))
               intro u w hW hC hd K hK
               (try simp [vOf, is, Region.binds] at hd)
               simp only [upd, Nat.reduceEqDiff, if_true, if_false] at hK
               (try simp only [hd] at hK)
               go_simp
               (first
                 | (refine hK _ _ ?_ ?_; (first | exact rfl); (repeat (first | exact Ext.refl _ | assumption | apply Ext.alloc | apply Ext.drew | apply Ext.drewN | (refine Ext.trans ?_ (by assumption))))))))
        case hV7 => (simp only [List.forall_mem_cons]; simp [stable_is])
        case fin7 =>
          intro u w2 hW2 hC2 hd
          simp only [AllV, is] at hd
          simp only [hd]
          clear hd
          clear z1 z2 z3 z4 hC2 hcc
          have hxw : Ext w w2 := by (repeat (first | exact Ext.refl _ | assumption | apply Ext.alloc | apply Ext.drew | apply Ext.drewN | (refine Ext.trans ?_ (by assumption))))
          obtain ⟨wo, rfl⟩ : ∃ wo : World, wo = w2 := ⟨_, rfl⟩
          clear hb hW2
          go_wp2
          go_loopw [3, 4] (fun u v wr => ∃ i j : Nat, u = .int .i64 i ∧ v = .int .i64 j ∧ i ≤ 1000 ∧ j ≤ 1000 ∧ Hid (Nat.gcd i j = Nat.gcd (a - c).natAbs (b - d).natAbs) ∧ Ext w wr) (fun _ v _ => (intOf v).toNat)
          case atStart => exact ⟨(a - c).natAbs, (b - d).natAbs, by first | rfl | (congr 1; omega), by first | rfl | (congr 1; omega), by omega, by omega, rfl, hxw⟩
          case round =>
            obtain ⟨i, j, rfl, rfl, hi, hj, HG, hbl⟩ := hrel
            by_cases hlt : 0 < j
            · have hmod : i % j < j := Nat.mod_lt _ hlt
              have hb1 : j ≠ 0 := by omega
              have hb0 : ((j : Int) != 0) = true := by simp; omega
              have q2 : (i : Int).tmod (j : Int) = ((i % j : Nat) : Int) := by rw [Int.tmod_eq_emod_of_nonneg (by omega)]; omega
              have HS := hide (show Nat.gcd j (i % j) = Nat.gcd (a - c).natAbs (b - d).natAbs by rw [← HG.out, Nat.gcd_comm i j, Nat.gcd_rec j i, Nat.gcd_comm])
              go_wp2
              refine wp_late (by kernel_rfl) (by kernel_rfl) (fun u => ⟨#[_, _, _, u 4, u 5, _, _, _, _, _, _, _, _, _, _, _, _, _, _, _, _, _, _, _, _, _, _, _, _, _, _, _, _, _, _, _, _, _, _, _, u 0, u 1, u 2, u 3, _], _⟩) (fun i => List.getD [_, _, _, _, _, _] i undef) [is ?v8_0, is ?v8_1, is ?v8_2, is ?v8_3, is ?v8_4, is ?v8_5] (fun w' => True) _ rfl ?hC8 ?hs8 ?hV8 ?fin8
              case hC8 => exact fun _ _ => trivial
              case hs8 =>
                repeat' (first
                  | exact LSteps.nil
                  | refine LSteps.cons ?_ ?_
                  | ((first
                      | refine LStep.plain rfl ?_)
                     intro u w hW hC hd hu K hK
                     (try (have hl4 := hu 4 (by decide +kernel); simp at hl4; (try simp only [upd, Nat.reduceEqDiff, if_true, if_false] at hK); simp only [hl4] at hK ⊢))
                     (try (have hl5 := hu 5 (by decide +kernel); simp at hl5; (try simp only [upd, Nat.reduceEqDiff, if_true, if_false] at hK); simp only [hl5] at hK ⊢))
                     (try simp [vOf, is, Region.binds] at hd)
                     (try simp only [upd, Nat.reduceEqDiff, if_true, if_false] at hK)
                     (try simp only [hd] at hK)
                     go_simp
                     (first
                       | (refine hK _ _ ?_ ?_; (first | exact rfl); (repeat (first | exact Ext.refl _ | assumption | apply Ext.alloc | apply Ext.drew | apply Ext.drewN | (refine Ext.trans ?_ (by assumption))))))))
              case hV8 => (simp only [List.forall_mem_cons]; simp [stable_is])
              case fin8 =>
                intro u w2 hW2 hC2 hd
                simp only [AllV, is] at hd
                simp only [hd]
                clear hd
                clear q2
                go_wp2
                go_roundw
                case rel => exact ⟨j, i % j, by first | rfl | trivial, by first | rfl | trivial, by omega, by omega, HS.out, by (repeat (first | exact Ext.refl _ | assumption | apply Ext.alloc | apply Ext.drew | apply Ext.drewN | (refine Ext.trans ?_ (by assumption))))⟩
                case measure => simp [intOf]; omega
            · have e : j = 0 := by omega
              subst e
              go_wp2
              go_ret
              exact ⟨ret_int (by rw [← HG.out, Nat.gcd_zero_right]), hbl⟩
    · by_cases hy0 : b - d < d - b
      · go_enter Try.func35, Try.ntmps35
        go_wp2_with ((go_at_call 51; refine (WallOk_any _ _ _ _ _).mono ?_; rintro e w1 ⟨rfl, hb⟩; have hcc := HB.out w1 (by (repeat (first | exact Ext.refl _ | assumption | apply Ext.alloc | apply Ext.drew | apply Ext.drewN | (refine Ext.trans ?_ (by assumption)))))))
        obtain ⟨wq, rfl⟩ : ∃ wq : World, wq = w1 := ⟨_, rfl⟩
        refine wp_flow (by kernel_rfl) (by kernel_rfl) (fun u => ⟨#[_, _, _, u 30, u 31, _, _, _, u 0, u 1, u 2, u 3, u 4, u 5, u 6, u 7, u 8, u 9, u 10, u 11, u 12, u 13, u 14, u 15, u 16, u 17, u 18, u 19, u 20, u 21, u 22, u 23, u 24, u 25, u 26, u 27, u 28, u 29, _, _, _, _, _, _, _], _⟩) (fun i => List.getD [_, _, _, _, _, _, _, _, _, _, _, _, _, _, _, _, _, _, _, _, _, _, _, _, _, _, _, _, _, _, _, _] i undef) [is ?v9_0, is ?v9_1, is ?v9_2, is ?v9_3, is ?v9_4, is ?v9_5, is ?v9_6, is ?v9_7, is ?v9_8, is ?v9_9, is ?v9_10, is ?v9_11, is ?v9_12, is ?v9_13, is ?v9_14, is ?v9_15, is ?v9_16, is ?v9_17, is ?v9_18, is ?v9_19, is ?v9_20, is ?v9_21, is ?v9_22, is ?v9_23, is ?v9_24, is ?v9_25, is ?v9_26, is ?v9_27, is ?v9_28, is ?v9_29, is ?v9_30, is ?v9_31] (fun w' => w'.cell? ⟨w.heap.size, 0, none⟩ = some (.int .i64 a) ∧ w'.cell? ⟨w.heap.size, 1, none⟩ = some (.int .i64 b) ∧ w'.cell? ⟨w.heap.size, 2, none⟩ = some (.int .i64 c) ∧ w'.cell? ⟨w.heap.size, 3, none⟩ = some (.int .i64 d) ∧ w.heap.size < w'.heap.size) _ rfl ?hC9 ?hs9 ?hV9 ?fin9
        case hC9 => exact fun w' hx => (by have hq : Ext _ w' := hx; have hf0 := HB.out w' (by (repeat (first | exact Ext.refl _ | assumption | apply Ext.alloc | apply Ext.drew | apply Ext.drewN | (refine Ext.trans ?_ (by assumption))))); and_intros <;> first | exact hf0 | exact hf0.1 | exact hf0.2.1 | exact hf0.2.2.1 | exact hf0.2.2.2.1 | exact hf0.2.2.2.2.1 | exact hf0.2.2.2.2.2.1 | exact hf0.2.2.2.2.2.2.1 | exact hf0.2.2.2.2.2.2.2.1 | exact hf0.2.2.2.2.2.2.2.2.1 | exact hf0.2.2.2.2.2.2.2.2.2.1 | exact hf0.2.2.2.2.2.2.2.2.2.2.1 | exact hf0.2.2.2.2.2.2.2.2.2.2.2.1 | exact hf0.2.2.2.2.2.2.2.2.2.2.2.2.1 | exact hf0.2.2.2.2.2.2.2.2.2.2.2.2.2.1 | exact hf0.2 | exact hf0.2.2 | exact hf0.2.2.2 | exact hf0.2.2.2.2 | exact hf0.2.2.2.2.2 | exact hf0.2.2.2.2.2.2 | exact hf0.2.2.2.2.2.2.2 | exact hf0.2.2.2.2.2.2.2.2 | exact hf0.2.2.2.2.2.2.2.2.2 | exact hf0.2.2.2.2.2.2.2.2.2.2 | exact hf0.2.2.2.2.2.2.2.2.2.2.2 | exact hf0.2.2.2.2.2.2.2.2.2.2.2.2 | exact hf0.2.2.2.2.2.2.2.2.2.2.2.2.2)
        case hs9 =>
          repeat' (first
            | exact FSteps.nil
            | refine FSteps.cons ?_ ?_
            | (refine FStep.off_ _ _ _ rfl rfl ?_ (fun _ => rfl) ?_; (focus (intro u w hd; simp [vOf, is, Region.binds] at hd; simp [hd])); (intro w'; exact rfl); done)
            | ((first
                | refine FStep.plain rfl ?_
                | (refine FStep.on_ _ _ _ rfl rfl ?_ ?_; (focus (intro u w hd; simp [vOf, is, Region.binds] at hd; simp [hd]))))
               intro u w hW hC hd K hK
               (try simp [vOf, is, Region.binds] at hd)
               simp only [upd, Nat.reduceEqDiff, if_true, if_false] at hK
               (try simp only [hd] at hK)
               go_simp
               (first
                 | (refine hK _ _ ?_ ?_; (first | exact rfl); (repeat (first | exact Ext.refl _ | assumption | apply Ext.alloc | apply Ext.drew | apply Ext.drewN | (refine Ext.trans ?_ (by assumption))))))))
        case hV9 => (simp only [List.forall_mem_cons]; simp [stable_is])
        case fin9 =>
          intro u w2 hW2 hC2 hd
          simp only [AllV, is] at hd
          simp only [hd]
          clear hd
          clear z1 z2 z3 z4 hC2 hcc
          have hxw : Ext w w2 := by (repeat (first | exact Ext.refl _ | assumption | apply Ext.alloc | apply Ext.drew | apply Ext.drewN | (refine Ext.trans ?_ (by assumption))))
          obtain ⟨wo, rfl⟩ : ∃ wo : World, wo = w2 := ⟨_, rfl⟩
          clear hb hW2
          go_wp2
          go_loopw [3, 4] (fun u v wr => ∃ i j : Nat, u = .int .i64 i ∧ v = .int .i64 j ∧ i ≤ 1000 ∧ j ≤ 1000 ∧ Hid (Nat.gcd i j = Nat.gcd (a - c).natAbs (b - d).natAbs) ∧ Ext w wr) (fun _ v _ => (intOf v).toNat)
          case atStart => exact ⟨(a - c).natAbs, (b - d).natAbs, by first | rfl | (congr 1; omega), by first | rfl | (congr 1; omega), by omega, by omega, rfl, hxw⟩
          case round =>
            obtain ⟨i, j, rfl, rfl, hi, hj, HG, hbl⟩ := hrel
            by_cases hlt : 0 < j
            · have hmod : i % j < j := Nat.mod_lt _ hlt
              have hb1 : j ≠ 0 := by omega
              have hb0 : ((j : Int) != 0) = true := by simp; omega
              have q2 : (i : Int).tmod (j : Int) = ((i % j : Nat) : Int) := by rw [Int.tmod_eq_emod_of_nonneg (by omega)]; omega
              have HS := hide (show Nat.gcd j (i % j) = Nat.gcd (a - c).natAbs (b - d).natAbs by rw [← HG.out, Nat.gcd_comm i j, Nat.gcd_rec j i, Nat.gcd_comm])
              go_wp2
              refine wp_late (by kernel_rfl) (by kernel_rfl) (fun u => ⟨#[_, _, _, u 4, u 5, _, _, _, _, _, _, _, _, _, _, _, _, _, _, _, _, _, _, _, _, _, _, _, _, _, _, _, _, _, _, _, _, _, _, _, u 0, u 1, u 2, u 3, _], _⟩) (fun i => List.getD [_, _, _, _, _, _] i undef) [is ?v10_0, is ?v10_1, is ?v10_2, is ?v10_3, is ?v10_4, is ?v10_5] (fun w' => True) _ rfl ?hC10 ?hs10 ?hV10 ?fin10
              case hC10 => exact fun _ _ => trivial
              case hs10 =>
                repeat' (first
                  | exact LSteps.nil
                  | refine LSteps.cons ?_ ?_
                  | ((first
                      | refine LStep.plain rfl ?_)
                     intro u w hW hC hd hu K hK
                     (try (have hl4 := hu 4 (by decide +kernel); simp at hl4; (try simp only [upd, Nat.reduceEqDiff, if_true, if_false] at hK); simp only [hl4] at hK ⊢))
                     (try (have hl5 := hu 5 (by decide +kernel); simp at hl5; (try simp only [upd, Nat.reduceEqDiff, if_true, if_false] at hK); simp only [hl5] at hK ⊢))
                     (try simp [vOf, is, Region.binds] at hd)
                     (try simp only [upd, Nat.reduceEqDiff, if_true, if_false] at hK)
                     (try simp only [hd] at hK)
                     go_simp
                     (first
                       | (refine hK _ _ ?_ ?_; (first | exact rfl); (repeat (first | exact Ext.refl _ | assumption | apply Ext.alloc | apply Ext.drew | apply Ext.drewN | (refine Ext.trans ?_ (by assumption))))))))
              case hV10 => (simp only [List.forall_mem_cons]; simp [stable_is])
              case fin10 =>
                intro u w2 hW2 hC2 hd
                simp only [AllV, is] at hd
                simp only [hd]
                clear hd
                clear q2
                go_wp2
                go_roundw
                case rel => exact ⟨j, i % j, by first | rfl | trivial, by first | rfl | trivial, by omega, by omega, HS.out, by (repeat (first | exact Ext.refl _ | assumption | apply Ext.alloc | apply Ext.drew | apply Ext.drewN | (refine Ext.trans ?_ (by assumption))))⟩
                case measure => simp [intOf]; omega
            · have e : j = 0 := by omega
              subst e
              go_wp2
              go_ret
              exact ⟨ret_int (by rw [← HG.out, Nat.gcd_zero_right]), hbl⟩
      · go_enter Try.func35, Try.ntmps35
        go_wp2_with ((go_at_call 51; refine (WallOk_any _ _ _ _ _).mono ?_; rintro e w1 ⟨rfl, hb⟩; have hcc := HB.out w1 (by (repeat (first | exact Ext.refl _ | assumption | apply Ext.alloc | apply Ext.drew | apply Ext.drewN | (refine Ext.trans ?_ (by assumption)))))))
        obtain ⟨wq, rfl⟩ : ∃ wq : World, wq = w1 := ⟨_, rfl⟩
        refine wp_flow (by kernel_rfl) (by kernel_rfl) (fun u => ⟨#[_, _, _, u 30, u 31, _, _, _, u 0, u 1, u 2, u 3, u 4, u 5, u 6, u 7, u 8, u 9, u 10, u 11, u 12, u 13, u 14, u 15, u 16, u 17, u 18, u 19, u 20, u 21, u 22, u 23, u 24, u 25, u 26, u 27, u 28, u 29, _, _, _, _, _, _, _], _⟩) (fun i => List.getD [_, _, _, _, _, _, _, _, _, _, _, _, _, _, _, _, _, _, _, _, _, _, _, _, _, _, _, _, _, _, _, _] i undef) [is ?v11_0, is ?v11_1, is ?v11_2, is ?v11_3, is ?v11_4, is ?v11_5, is ?v11_6, is ?v11_7, is ?v11_8, is ?v11_9, is ?v11_10, is ?v11_11, is ?v11_12, is ?v11_13, is ?v11_14, is ?v11_15, is ?v11_16, is ?v11_17, is ?v11_18, is ?v11_19, is ?v11_20, is ?v11_21, is ?v11_22, is ?v11_23, is ?v11_24, is ?v11_25, is ?v11_26, is ?v11_27, is ?v11_28, is ?v11_29, is ?v11_30, is ?v11_31] (fun w' => w'.cell? ⟨w.heap.size, 0, none⟩ = some (.int .i64 a) ∧ w'.cell? ⟨w.heap.size, 1, none⟩ = some (.int .i64 b) ∧ w'.cell? ⟨w.heap.size, 2, none⟩ = some (.int .i64 c) ∧ w'.cell? ⟨w.heap.size, 3, none⟩ = some (.int .i64 d) ∧ w.heap.size < w'.heap.size) _ rfl ?hC11 ?hs11 ?hV11 ?fin11
        case hC11 => exact fun w' hx => (by have hq : Ext _ w' := hx; have hf0 := HB.out w' (by (repeat (first | exact Ext.refl _ | assumption | apply Ext.alloc | apply Ext.drew | apply Ext.drewN | (refine Ext.trans ?_ (by assumption))))); and_intros <;> first | exact hf0 | exact hf0.1 | exact hf0.2.1 | exact hf0.2.2.1 | exact hf0.2.2.2.1 | exact hf0.2.2.2.2.1 | exact hf0.2.2.2.2.2.1 | exact hf0.2.2.2.2.2.2.1 | exact hf0.2.2.2.2.2.2.2.1 | exact hf0.2.2.2.2.2.2.2.2.1 | exact hf0.2.2.2.2.2.2.2.2.2.1 | exact hf0.2.2.2.2.2.2.2.2.2.2.1 | exact hf0.2.2.2.2.2.2.2.2.2.2.2.1 | exact hf0.2.2.2.2.2.2.2.2.2.2.2.2.1 | exact hf0.2.2.2.2.2.2.2.2.2.2.2.2.2.1 | exact hf0.2 | exact hf0.2.2 | exact hf0.2.2.2 | exact hf0.2.2.2.2 | exact hf0.2.2.2.2.2 | exact hf0.2.2.2.2.2.2 | exact hf0.2.2.2.2.2.2.2 | exact hf0.2.2.2.2.2.2.2.2 | exact hf0.2.2.2.2.2.2.2.2.2 | exact hf0.2.2.2.2.2.2.2.2.2.2 | exact hf0.2.2.2.2.2.2.2.2.2.2.2 | exact hf0.2.2.2.2.2.2.2.2.2.2.2.2 | exact hf0.2.2.2.2.2.2.2.2.2.2.2.2.2)
        case hs11 =>
          repeat' (first
            | exact FSteps.nil
            | refine FSteps.cons ?_ ?_
            | (refine FStep.off_ _ _ _ rfl rfl ?_ (fun _ => rfl) ?_; (focus (intro u w hd; simp [vOf, is, Region.binds] at hd; simp [hd])); (intro w'; exact rfl); done)
            | ((first
                | refine FStep.plain rfl ?_
                | (refine FStep.on_ _ _ _ rfl rfl ?_ ?_; (focus (intro u w hd; simp [vOf, is, Region.binds] at hd; simp [hd]))))
               intro u w hW hC hd K hK
               (try simp [vOf, is, Region.binds] at hd)
               simp only [upd, Nat.reduceEqDiff, if_true, if_false] at hK
               (try simp only [hd] at hK)
               go_simp
               (first
                 | (refine hK _ _ ?_ ?_; (first | exact rfl); (repeat (first | exact Ext.refl _ | assumption | apply Ext.alloc | apply Ext.drew | apply Ext.drewN | (refine Ext.trans ?_ (by assumption))))))))
        case hV11 => (simp only [List.forall_mem_cons]; simp [stable_is])
        case fin11 =>
          intro u w2 hW2 hC2 hd
          simp only [AllV, is] at hd
          simp only [hd]
          clear hd
          clear z1 z2 z3 z4 hC2 hcc
          have hxw : Ext w w2 := by (repeat (first | exact Ext.refl _ | assumption | apply Ext.alloc | apply Ext.drew | apply Ext.drewN | (refine Ext.trans ?_ (by assumption))))
          obtain ⟨wo, rfl⟩ : ∃ wo : World, wo = w2 := ⟨_, rfl⟩
          clear hb hW2
          go_wp2
          go_loopw [3, 4] (fun u v wr => ∃ i j : Nat, u = .int .i64 i ∧ v = .int .i64 j ∧ i ≤ 1000 ∧ j ≤ 1000 ∧ Hid (Nat.gcd i j = Nat.gcd (a - c).natAbs (b - d).natAbs) ∧ Ext w wr) (fun _ v _ => (intOf v).toNat)
          case atStart => exact ⟨(a - c).natAbs, (b - d).natAbs, by first | rfl | (congr 1; omega), by first | rfl | (congr 1; omega), by omega, by omega, rfl, hxw⟩
          case round =>
            obtain ⟨i, j, rfl, rfl, hi, hj, HG, hbl⟩ := hrel
            by_cases hlt : 0 < j
            · have hmod : i % j < j := Nat.mod_lt _ hlt
              have hb1 : j ≠ 0 := by omega
              have hb0 : ((j : Int) != 0) = true := by simp; omega
              have q2 : (i : Int).tmod (j : Int) = ((i % j : Nat) : Int) := by rw [Int.tmod_eq_emod_of_nonneg (by omega)]; omega
              have HS := hide (show Nat.gcd j (i % j) = Nat.gcd (a - c).natAbs (b - d).natAbs by rw [← HG.out, Nat.gcd_comm i j, Nat.gcd_rec j i, Nat.gcd_comm])
              go_wp2
              refine wp_late (by kernel_rfl) (by kernel_rfl) (fun u => ⟨#[_, _, _, u 4, u 5, _, _, _, _, _, _, _, _, _, _, _, _, _, _, _, _, _, _, _, _, _, _, _, _, _, _, _, _, _, _, _, _, _, _, _, u 0, u 1, u 2, u 3, _], _⟩) (fun i => List.getD [_, _, _, _, _, _] i undef) [is ?v12_0, is ?v12_1, is ?v12_2, is ?v12_3, is ?v12_4, is ?v12_5] (fun w' => True) _ rfl ?hC12 ?hs12 ?hV12 ?fin12
              case hC12 => exact fun _ _ => trivial
              case hs12 =>
                repeat' (first
                  | exact LSteps.nil
                  | refine LSteps.cons ?_ ?_
                  | ((first
                      | refine LStep.plain rfl ?_)
                     intro u w hW hC hd hu K hK
                     (try (have hl4 := hu 4 (by decide +kernel); simp at hl4; (try simp only [upd, Nat.reduceEqDiff, if_true, if_false] at hK); simp only [hl4] at hK ⊢))
                     (try (have hl5 := hu 5 (by decide +kernel); simp at hl5; (try simp only [upd, Nat.reduceEqDiff, if_true, if_false] at hK); simp only [hl5] at hK ⊢))
                     (try simp [vOf, is, Region.binds] at hd)
                     (try simp only [upd, Nat.reduceEqDiff, if_true, if_false] at hK)
                     (try simp only [hd] at hK)
                     go_simp
                     (first
                       | (refine hK _ _ ?_ ?_; (first | exact rfl); (repeat (first | exact Ext.refl _ | assumption | apply Ext.alloc | apply Ext.drew | apply Ext.drewN | (refine Ext.trans ?_ (by assumption))))))))
              case hV12 => (simp only [List.forall_mem_cons]; simp [stable_is])
              case fin12 =>
                intro u w2 hW2 hC2 hd
                simp only [AllV, is] at hd
                simp only [hd]
                clear hd
                clear q2
                go_wp2
                go_roundw
                case rel => exact ⟨j, i % j, by first | rfl | trivial, by first | rfl | trivial, by omega, by omega, HS.out, by (repeat (first | exact Ext.refl _ | assumption | apply Ext.alloc | apply Ext.drew | apply Ext.drewN | (refine Ext.trans ?_ (by assumption))))⟩
                case measure => simp [intOf]; omega
            · have e : j = 0 := by omega
              subst e
              go_wp2
              go_ret
              exact ⟨ret_int (by rw [← HG.out, Nat.gcd_zero_right]), hbl⟩

end Go.Proofs.Ytanagdlikoinaaa
