/-
  Contracts: whole points on a wall; EdgePoints, InnerPoints.
-/
import Derived.Test.YtngapnmegembaaaWallOf
import Derived.Test.YtngapnmegembaaaLate
namespace Go.Proofs.Ytngapnmegembaaa
open Go.RowKit

/-- LatticeSteps, as both texts give it -/
def latV (a b c d : Int) : Int := if wok a b c d = true then (Nat.gcd (a - c).natAbs (b - d).natAbs : Int) else 0

theorem wok_bd {a b c d : Int} (h : wok a b c d = true) : ((-40 ≤ a ∧ a ≤ 40) ∧ (-40 ≤ b ∧ b ≤ 40)) ∧ ((-40 ≤ c ∧ c ≤ 40) ∧ (-40 ≤ d ∧ d ≤ 40)) ∧ (a ≠ c ∨ b ≠ d) := by
  unfold wok pok2 neB at h
  simp only [Bool.and_eq_true, Bool.not_eq_true', Bool.and_eq_false_iff, beq_eq_false_iff_ne] at h
  exact ⟨(pok_iff _ _).1 h.1.1, (pok_iff _ _).1 h.1.2, h.2⟩

theorem latV_bd (a b c d : Int) : 0 ≤ latV a b c d ∧ latV a b c d ≤ 80 := by
  unfold latV
  split
  · rename_i h
    obtain ⟨h1, h2, h3⟩ := wok_bd h
    refine ⟨by omega, ?_⟩
    have h4 : (a - c).natAbs ≤ 80 := by omega
    have h5 : (b - d).natAbs ≤ 80 := by omega
    rcases Nat.eq_zero_or_pos (a - c).natAbs with h0 | h0
    · rw [h0, Nat.gcd_zero_left]; omega
    · have := Nat.gcd_le_left (b - d).natAbs h0; omega
  · omega

theorem max_abs (x y : Int) : max (x - y) (y - x) = ((x - y).natAbs : Int) := by omega
theorem max_neg_abs (x : Int) : max x (-x) = (x.natAbs : Int) := by omega


set_option maxRecDepth 100000 in
set_option maxHeartbeats 3200000 in
theorem l03Gcd_any (x y : Int) (w : World) (hx : -1000 ≤ x ∧ x ≤ 1000) (hy : -1000 ≤ y ∧ y ≤ 1000) :
    Calls Try.prog 104 #[.int .i64 x, .int .i64 y] w fun e w' => e = .returned (.int .i64 (Nat.gcd x.natAbs y.natAbs)) ∧ Ext w w' := by
  have zx := wrap_in (-x) (by omega) (by omega)
  have zy := wrap_in (-y) (by omega) (by omega)
  by_cases hx0 : x < -x
  · by_cases hy0 : y < -y
    · go_enter Try.func104, Try.ntmps104
      go_wp2
      clear zx zy
      go_loopw [0, 1] (fun p q wr => ∃ a b : Nat, p = .int .i64 a ∧ q = .int .i64 b ∧ a ≤ 1000 ∧ b ≤ 1000 ∧ Hid (Nat.gcd a b = Nat.gcd x.natAbs y.natAbs) ∧ Ext w wr) (fun _ q _ => (intOf q).toNat)
      case atStart => exact ⟨x.natAbs, y.natAbs, by first | rfl | (congr 1; omega), by first | rfl | (congr 1; omega), by omega, by omega, rfl, Ext.refl w⟩
      case round =>
        obtain ⟨a, b, rfl, rfl, ha, hb, HG, hbl⟩ := hrel
        by_cases hlt : 0 < b
        · have hmod : a % b < b := Nat.mod_lt _ hlt
          have hb0 : b ≠ 0 := by omega
          have q2 : (a : Int).tmod (b : Int) = ((a % b : Nat) : Int) := by rw [Int.tmod_eq_emod_of_nonneg (by omega)]; omega
          have HS := hide (show Nat.gcd b (a % b) = Nat.gcd x.natAbs y.natAbs by rw [← HG.out, Nat.gcd_comm a b, Nat.gcd_rec b a, Nat.gcd_comm])
          go_wp2
          refine wp_late (by kernel_rfl) (by kernel_rfl) (fun u => ⟨#[u 4, u 5, _, _, _, _, _, _, _, _, _, _, _, _, _, u 0, u 1, u 2, u 3, _], _⟩) (fun i => List.getD [_, _, _, _, _, _] i undef) [is ?v27_0, is ?v27_1, is ?v27_2, is ?v27_3, is ?v27_4, is ?v27_5] (fun w' => True) _ rfl ?hC27 ?hs27 ?hV27 ?fin27
          case hC27 => exact fun _ _ => trivial
          case hs27 =>
            repeat' (first
              | exact LSteps.nil
              | refine LSteps.cons ?_ ?_
              | ((first
                  | refine LStep.plain rfl ?_)
                 intro u w hW hC hd hu K hK
                 (try (have hl4 := hu 4 (by decide +kernel); simp at hl4; (try simp only [upd, Nat.reduceEqDiff, if_true, if_false] at hK); simp only [hl4] at hK ⊢))
                 (try (have hl5 := hu 5 (by decide +kernel); simp at hl5; (try simp only [upd, Nat.reduceEqDiff, if_true, if_false] at hK); simp only [hl5] at hK ⊢))
                 (try simp [vOf, is, Region.binds] at hd)
                 (try simp only [upd, Nat.reduceEqDiff, if_true, if_false] at hK)
                 (try simp only [hd] at hK)
                 go_simp
                 (first
                   | (refine hK _ _ ?_ ?_; (first | exact rfl); (repeat (first | exact Ext.refl _ | assumption | apply Ext.alloc | apply Ext.drew | apply Ext.drewN | (refine Ext.trans ?_ (by assumption))))))))
          case hV27 => (simp only [List.forall_mem_cons]; simp [stable_is])
          case fin27 =>
            intro u w2 hW2 hC2 hd
            simp only [AllV, is] at hd
            simp only [hd]
            clear hd
            clear q2
            go_wp2
            go_roundw
            case rel => exact ⟨b, a % b, by first | rfl | trivial, by first | rfl | trivial, by omega, by omega, HS.out, by (repeat (first | exact Ext.refl _ | assumption | apply Ext.alloc | apply Ext.drew | apply Ext.drewN | (refine Ext.trans ?_ (by assumption))))⟩
            case measure => simp [intOf]; omega
        · have e : b = 0 := by omega
          subst e
          go_wp2
          go_ret
          exact ⟨ret_int (by rw [← HG.out, Nat.gcd_zero_right]), hbl⟩
    · go_enter Try.func104, Try.ntmps104
      go_wp2
      clear zx zy
      go_loopw [0, 1] (fun p q wr => ∃ a b : Nat, p = .int .i64 a ∧ q = .int .i64 b ∧ a ≤ 1000 ∧ b ≤ 1000 ∧ Hid (Nat.gcd a b = Nat.gcd x.natAbs y.natAbs) ∧ Ext w wr) (fun _ q _ => (intOf q).toNat)
      case atStart => exact ⟨x.natAbs, y.natAbs, by first | rfl | (congr 1; omega), by first | rfl | (congr 1; omega), by omega, by omega, rfl, Ext.refl w⟩
      case round =>
        obtain ⟨a, b, rfl, rfl, ha, hb, HG, hbl⟩ := hrel
        by_cases hlt : 0 < b
        · have hmod : a % b < b := Nat.mod_lt _ hlt
          have hb0 : b ≠ 0 := by omega
          have q2 : (a : Int).tmod (b : Int) = ((a % b : Nat) : Int) := by rw [Int.tmod_eq_emod_of_nonneg (by omega)]; omega
          have HS := hide (show Nat.gcd b (a % b) = Nat.gcd x.natAbs y.natAbs by rw [← HG.out, Nat.gcd_comm a b, Nat.gcd_rec b a, Nat.gcd_comm])
          go_wp2
          refine wp_late (by kernel_rfl) (by kernel_rfl) (fun u => ⟨#[u 4, u 5, _, _, _, _, _, _, _, _, _, _, _, _, _, u 0, u 1, u 2, u 3, _], _⟩) (fun i => List.getD [_, _, _, _, _, _] i undef) [is ?v28_0, is ?v28_1, is ?v28_2, is ?v28_3, is ?v28_4, is ?v28_5] (fun w' => True) _ rfl ?hC28 ?hs28 ?hV28 ?fin28
          case hC28 => exact fun _ _ => trivial
          case hs28 =>
            repeat' (first
              | exact LSteps.nil
              | refine LSteps.cons ?_ ?_
              | ((first
                  | refine LStep.plain rfl ?_)
                 intro u w hW hC hd hu K hK
                 (try (have hl4 := hu 4 (by decide +kernel); simp at hl4; (try simp only [upd, Nat.reduceEqDiff, if_true, if_false] at hK); simp only [hl4] at hK ⊢))
                 (try (have hl5 := hu 5 (by decide +kernel); simp at hl5; (try simp only [upd, Nat.reduceEqDiff, if_true, if_false] at hK); simp only [hl5] at hK ⊢))
                 (try simp [vOf, is, Region.binds] at hd)
                 (try simp only [upd, Nat.reduceEqDiff, if_true, if_false] at hK)
                 (try simp only [hd] at hK)
                 go_simp
                 (first
                   | (refine hK _ _ ?_ ?_; (first | exact rfl); (repeat (first | exact Ext.refl _ | assumption | apply Ext.alloc | apply Ext.drew | apply Ext.drewN | (refine Ext.trans ?_ (by assumption))))))))
          case hV28 => (simp only [List.forall_mem_cons]; simp [stable_is])
          case fin28 =>
            intro u w2 hW2 hC2 hd
            simp only [AllV, is] at hd
            simp only [hd]
            clear hd
            clear q2
            go_wp2
            go_roundw
            case rel => exact ⟨b, a % b, by first | rfl | trivial, by first | rfl | trivial, by omega, by omega, HS.out, by (repeat (first | exact Ext.refl _ | assumption | apply Ext.alloc | apply Ext.drew | apply Ext.drewN | (refine Ext.trans ?_ (by assumption))))⟩
            case measure => simp [intOf]; omega
        · have e : b = 0 := by omega
          subst e
          go_wp2
          go_ret
          exact ⟨ret_int (by rw [← HG.out, Nat.gcd_zero_right]), hbl⟩
  · by_cases hy0 : y < -y
    · go_enter Try.func104, Try.ntmps104
      go_wp2
      clear zx zy
      go_loopw [0, 1] (fun p q wr => ∃ a b : Nat, p = .int .i64 a ∧ q = .int .i64 b ∧ a ≤ 1000 ∧ b ≤ 1000 ∧ Hid (Nat.gcd a b = Nat.gcd x.natAbs y.natAbs) ∧ Ext w wr) (fun _ q _ => (intOf q).toNat)
      case atStart => exact ⟨x.natAbs, y.natAbs, by first | rfl | (congr 1; omega), by first | rfl | (congr 1; omega), by omega, by omega, rfl, Ext.refl w⟩
      case round =>
        obtain ⟨a, b, rfl, rfl, ha, hb, HG, hbl⟩ := hrel
        by_cases hlt : 0 < b
        · have hmod : a % b < b := Nat.mod_lt _ hlt
          have hb0 : b ≠ 0 := by omega
          have q2 : (a : Int).tmod (b : Int) = ((a % b : Nat) : Int) := by rw [Int.tmod_eq_emod_of_nonneg (by omega)]; omega
          have HS := hide (show Nat.gcd b (a % b) = Nat.gcd x.natAbs y.natAbs by rw [← HG.out, Nat.gcd_comm a b, Nat.gcd_rec b a, Nat.gcd_comm])
          go_wp2
          refine wp_late (by kernel_rfl) (by kernel_rfl) (fun u => ⟨#[u 4, u 5, _, _, _, _, _, _, _, _, _, _, _, _, _, u 0, u 1, u 2, u 3, _], _⟩) (fun i => List.getD [_, _, _, _, _, _] i undef) [is ?v29_0, is ?v29_1, is ?v29_2, is ?v29_3, is ?v29_4, is ?v29_5] (fun w' => True) _ rfl ?hC29 ?hs29 ?hV29 ?fin29
          case hC29 => exact fun _ _ => trivial
          case hs29 =>
            repeat' (first
              | exact LSteps.nil
              | refine LSteps.cons ?_ ?_
              | ((first
                  | refine LStep.plain rfl ?_)
                 intro u w hW hC hd hu K hK
                 (try (have hl4 := hu 4 (by decide +kernel); simp at hl4; (try simp only [upd, Nat.reduceEqDiff, if_true, if_false] at hK); simp only [hl4] at hK ⊢))
                 (try (have hl5 := hu 5 (by decide +kernel); simp at hl5; (try simp only [upd, Nat.reduceEqDiff, if_true, if_false] at hK); simp only [hl5] at hK ⊢))
                 (try simp [vOf, is, Region.binds] at hd)
                 (try simp only [upd, Nat.reduceEqDiff, if_true, if_false] at hK)
                 (try simp only [hd] at hK)
                 go_simp
                 (first
                   | (refine hK _ _ ?_ ?_; (first | exact rfl); (repeat (first | exact Ext.refl _ | assumption | apply Ext.alloc | apply Ext.drew | apply Ext.drewN | (refine Ext.trans ?_ (by assumption))))))))
          case hV29 => (simp only [List.forall_mem_cons]; simp [stable_is])
          case fin29 =>
            intro u w2 hW2 hC2 hd
            simp only [AllV, is] at hd
            simp only [hd]
            clear hd
            clear q2
            go_wp2
            go_roundw
            case rel => exact ⟨b, a % b, by first | rfl | trivial, by first | rfl | trivial, by omega, by omega, HS.out, by (repeat (first | exact Ext.refl _ | assumption | apply Ext.alloc | apply Ext.drew | apply Ext.drewN | (refine Ext.trans ?_ (by assumption))))⟩
            case measure => simp [intOf]; omega
        · have e : b = 0 := by omega
          subst e
          go_wp2
          go_ret
          exact ⟨ret_int (by rw [← HG.out, Nat.gcd_zero_right]), hbl⟩
    · go_enter Try.func104, Try.ntmps104
      go_wp2
      clear zx zy
      go_loopw [0, 1] (fun p q wr => ∃ a b : Nat, p = .int .i64 a ∧ q = .int .i64 b ∧ a ≤ 1000 ∧ b ≤ 1000 ∧ Hid (Nat.gcd a b = Nat.gcd x.natAbs y.natAbs) ∧ Ext w wr) (fun _ q _ => (intOf q).toNat)
      case atStart => exact ⟨x.natAbs, y.natAbs, by first | rfl | (congr 1; omega), by first | rfl | (congr 1; omega), by omega, by omega, rfl, Ext.refl w⟩
      case round =>
        obtain ⟨a, b, rfl, rfl, ha, hb, HG, hbl⟩ := hrel
        by_cases hlt : 0 < b
        · have hmod : a % b < b := Nat.mod_lt _ hlt
          have hb0 : b ≠ 0 := by omega
          have q2 : (a : Int).tmod (b : Int) = ((a % b : Nat) : Int) := by rw [Int.tmod_eq_emod_of_nonneg (by omega)]; omega
          have HS := hide (show Nat.gcd b (a % b) = Nat.gcd x.natAbs y.natAbs by rw [← HG.out, Nat.gcd_comm a b, Nat.gcd_rec b a, Nat.gcd_comm])
          go_wp2
          refine wp_late (by kernel_rfl) (by kernel_rfl) (fun u => ⟨#[u 4, u 5, _, _, _, _, _, _, _, _, _, _, _, _, _, u 0, u 1, u 2, u 3, _], _⟩) (fun i => List.getD [_, _, _, _, _, _] i undef) [is ?v30_0, is ?v30_1, is ?v30_2, is ?v30_3, is ?v30_4, is ?v30_5] (fun w' => True) _ rfl ?hC30 ?hs30 ?hV30 ?fin30
          case hC30 => exact fun _ _ => trivial
          case hs30 =>
            repeat' (first
              | exact LSteps.nil
              | refine LSteps.cons ?_ ?_
              | ((first
                  | refine LStep.plain rfl ?_)
                 intro u w hW hC hd hu K hK
                 (try (have hl4 := hu 4 (by decide +kernel); simp at hl4; (try simp only [upd, Nat.reduceEqDiff, if_true, if_false] at hK); simp only [hl4] at hK ⊢))
                 (try (have hl5 := hu 5 (by decide +kernel); simp at hl5; (try simp only [upd, Nat.reduceEqDiff, if_true, if_false] at hK); simp only [hl5] at hK ⊢))
                 (try simp [vOf, is, Region.binds] at hd)
                 (try simp only [upd, Nat.reduceEqDiff, if_true, if_false] at hK)
                 (try simp only [hd] at hK)
                 go_simp
                 (first
                   | (refine hK _ _ ?_ ?_; (first | exact rfl); (repeat (first | exact Ext.refl _ | assumption | apply Ext.alloc | apply Ext.drew | apply Ext.drewN | (refine Ext.trans ?_ (by assumption))))))))
          case hV30 => (simp only [List.forall_mem_cons]; simp [stable_is])
          case fin30 =>
            intro u w2 hW2 hC2 hd
            simp only [AllV, is] at hd
            simp only [hd]
            clear hd
            clear q2
            go_wp2
            go_roundw
            case rel => exact ⟨b, a % b, by first | rfl | trivial, by first | rfl | trivial, by omega, by omega, HS.out, by (repeat (first | exact Ext.refl _ | assumption | apply Ext.alloc | apply Ext.drew | apply Ext.drewN | (refine Ext.trans ?_ (by assumption))))⟩
            case measure => simp [intOf]; omega
        · have e : b = 0 := by omega
          subst e
          go_wp2
          go_ret
          exact ⟨ret_int (by rw [← HG.out, Nat.gcd_zero_right]), hbl⟩


set_option maxRecDepth 100000 in
set_option maxHeartbeats 4000000 in
theorem LatticeSteps_any (a b c d : Int) (w : World) :
    Calls Try.prog 91 #[.agg #[.int .i64 a, .int .i64 b, .int .i64 c, .int .i64 d]] w fun e w' => e = .returned (.int .i64 (latV a b c d)) ∧ Ext w w' := by
  have HB : Hid (∀ w', Ext (w.alloc (.cells #[.int .i64 a, .int .i64 b, .int .i64 c, .int .i64 d] 40)) w' → w'.cell? ⟨w.heap.size, 0, none⟩ = some (.int .i64 a) ∧ w'.cell? ⟨w.heap.size, 1, none⟩ = some (.int .i64 b) ∧ w'.cell? ⟨w.heap.size, 2, none⟩ = some (.int .i64 c) ∧ w'.cell? ⟨w.heap.size, 3, none⟩ = some (.int .i64 d) ∧ w.heap.size < w'.heap.size) := fun w' hx => by
    and_intros <;> (first | (have hz := hx.size; simp at hz; omega) | ((first | rw [hx.cells _ _ (by first | (simp; done) | (simp; omega))] | rw [hx.frozens _ _ (by first | (simp; done) | (simp; omega))]); (first | (simp [go_sem]; done) | (simp [go_sem, World.cell?_alloc_past]; done) | (simp [go_sem, World.frozen?]; done))))
  unfold latV
  cases h : wok a b c d
  · go_enter Try.func91, Try.ntmps91
    go_wp2_with ((go_at_call 101; refine (WallOk_any _ _ _ _ _).mono ?_; rintro e w1 ⟨rfl, hb⟩; have hcc := HB.out w1 (by (repeat (first | exact Ext.refl _ | assumption | apply Ext.alloc | apply Ext.drew | apply Ext.drewN | (refine Ext.trans ?_ (by assumption)))))))
    go_ret
    exact ⟨rfl, by (repeat (first | exact Ext.refl _ | assumption | apply Ext.alloc | apply Ext.drew | apply Ext.drewN | (refine Ext.trans ?_ (by assumption))))⟩
  · obtain ⟨⟨⟨a1, a2⟩, b1, b2⟩, ⟨⟨c1, c2⟩, d1, d2⟩, hne⟩ := wok_bd h
    have HNE := hide hne
    clear hne
    have z1 := wrap_in (a - c) (by omega) (by omega)
    have z2 := wrap_in (c - a) (by omega) (by omega)
    have z3 := wrap_in (b - d) (by omega) (by omega)
    have z4 := wrap_in (d - b) (by omega) (by omega)
    have hA : (a - c).natAbs ≤ 80 := by omega
    have hB : (b - d).natAbs ≤ 80 := by omega
    by_cases hx0 : a - c < c - a
    · by_cases hy0 : b - d < d - b
      · go_enter Try.func91, Try.ntmps91
        go_wp2_with ((go_at_call 101; refine (WallOk_any _ _ _ _ _).mono ?_; rintro e w1 ⟨rfl, hb⟩; have hcc := HB.out w1 (by (repeat (first | exact Ext.refl _ | assumption | apply Ext.alloc | apply Ext.drew | apply Ext.drewN | (refine Ext.trans ?_ (by assumption)))))))
        obtain ⟨wq, rfl⟩ : ∃ wq : World, wq = w1 := ⟨_, rfl⟩
        refine wp_flow (by kernel_rfl) (by kernel_rfl) (fun u => ⟨#[_, _, _, u 30, u 31, _, _, _, u 0, u 1, u 2, u 3, u 4, u 5, u 6, u 7, u 8, u 9, u 10, u 11, u 12, u 13, u 14, u 15, u 16, u 17, u 18, u 19, u 20, u 21, u 22, u 23, u 24, u 25, u 26, u 27, u 28, u 29, _, _, _, _, _, _, _], _⟩) (fun i => List.getD [_, _, _, _, _, _, _, _, _, _, _, _, _, _, _, _, _, _, _, _, _, _, _, _, _, _, _, _, _, _, _, _] i undef) [is ?v31_0, is ?v31_1, is ?v31_2, is ?v31_3, is ?v31_4, is ?v31_5, is ?v31_6, is ?v31_7, is ?v31_8, is ?v31_9, is ?v31_10, is ?v31_11, is ?v31_12, is ?v31_13, is ?v31_14, is ?v31_15, is ?v31_16, is ?v31_17, is ?v31_18, is ?v31_19, is ?v31_20, is ?v31_21, is ?v31_22, is ?v31_23, is ?v31_24, is ?v31_25, is ?v31_26, is ?v31_27, is ?v31_28, is ?v31_29, is ?v31_30, is ?v31_31] (fun w' => w'.cell? ⟨w.heap.size, 0, none⟩ = some (.int .i64 a) ∧ w'.cell? ⟨w.heap.size, 1, none⟩ = some (.int .i64 b) ∧ w'.cell? ⟨w.heap.size, 2, none⟩ = some (.int .i64 c) ∧ w'.cell? ⟨w.heap.size, 3, none⟩ = some (.int .i64 d) ∧ w.heap.size < w'.heap.size) _ rfl ?hC31 ?hs31 ?hV31 ?fin31
        case hC31 => exact fun w' hx => (by have hq : Ext _ w' := hx; have hf0 := HB.out w' (by (repeat (first | exact Ext.refl _ | assumption | apply Ext.alloc | apply Ext.drew | apply Ext.drewN | (refine Ext.trans ?_ (by assumption))))); and_intros <;> first | exact hf0 | exact hf0.1 | exact hf0.2.1 | exact hf0.2.2.1 | exact hf0.2.2.2.1 | exact hf0.2.2.2.2.1 | exact hf0.2.2.2.2.2.1 | exact hf0.2.2.2.2.2.2.1 | exact hf0.2.2.2.2.2.2.2.1 | exact hf0.2.2.2.2.2.2.2.2.1 | exact hf0.2.2.2.2.2.2.2.2.2.1 | exact hf0.2.2.2.2.2.2.2.2.2.2.1 | exact hf0.2.2.2.2.2.2.2.2.2.2.2.1 | exact hf0.2.2.2.2.2.2.2.2.2.2.2.2.1 | exact hf0.2.2.2.2.2.2.2.2.2.2.2.2.2.1 | exact hf0.2 | exact hf0.2.2 | exact hf0.2.2.2 | exact hf0.2.2.2.2 | exact hf0.2.2.2.2.2 | exact hf0.2.2.2.2.2.2 | exact hf0.2.2.2.2.2.2.2 | exact hf0.2.2.2.2.2.2.2.2 | exact hf0.2.2.2.2.2.2.2.2.2 | exact hf0.2.2.2.2.2.2.2.2.2.2 | exact hf0.2.2.2.2.2.2.2.2.2.2.2 | exact hf0.2.2.2.2.2.2.2.2.2.2.2.2 | exact hf0.2.2.2.2.2.2.2.2.2.2.2.2.2)
        case hs31 =>
          repeat' (first
            | exact FSteps.nil
            | refine FSteps.cons ?_ ?_
            | (refine FStep.off_ _ _ _ rfl rfl ?_ (fun _ => rfl) ?_; (focus (intro u w hd; simp [vOf, is, Region.binds] at hd; simp [hd])); (intro w'; exact rfl); done)
            | ((first
                | refine FStep.plain rfl ?_
                | (refine FStep.on_ _ _ _ rfl rfl ?_ ?_; (focus (intro u w hd; simp [vOf, is, Region.binds] at hd; simp [hd]))))
               intro u w hW hC hd K hK
               (try simp [vOf, is, Region.binds] at hd)
               simp only [upd, Nat.reduceEqDiff, if_true, if_false] at hK
               (try simp only [hd] at hK)
               go_simp
               (first
                 | (refine hK _ _ ?_ ?_; (first | exact rfl); (repeat (first | exact Ext.refl _ | assumption | apply Ext.alloc | apply Ext.drew | apply Ext.drewN | (refine Ext.trans ?_ (by assumption))))))))
        case hV31 => (simp only [List.forall_mem_cons]; simp [stable_is])
        case fin31 =>
          intro u w2 hW2 hC2 hd
          simp only [AllV, is] at hd
          simp only [hd]
          clear hd
          clear z1 z2 z3 z4 hC2 hcc
          have hxw : Ext w w2 := by (repeat (first | exact Ext.refl _ | assumption | apply Ext.alloc | apply Ext.drew | apply Ext.drewN | (refine Ext.trans ?_ (by assumption))))
          obtain ⟨wo, rfl⟩ : ∃ wo : World, wo = w2 := ⟨_, rfl⟩
          clear hb hW2
          go_wp2
          go_loopw [3, 4] (fun u v wr => ∃ i j : Nat, u = .int .i64 i ∧ v = .int .i64 j ∧ i ≤ 1000 ∧ j ≤ 1000 ∧ Hid (Nat.gcd i j = Nat.gcd (a - c).natAbs (b - d).natAbs) ∧ Ext w wr) (fun _ v _ => (intOf v).toNat)
          case atStart => exact ⟨(a - c).natAbs, (b - d).natAbs, by first | rfl | (congr 1; omega), by first | rfl | (congr 1; omega), by omega, by omega, rfl, hxw⟩
          case round =>
            obtain ⟨i, j, rfl, rfl, hi, hj, HG, hbl⟩ := hrel
            by_cases hlt : 0 < j
            · have hmod : i % j < j := Nat.mod_lt _ hlt
              have hb1 : j ≠ 0 := by omega
              have hb0 : ((j : Int) != 0) = true := by simp; omega
              have q2 : (i : Int).tmod (j : Int) = ((i % j : Nat) : Int) := by rw [Int.tmod_eq_emod_of_nonneg (by omega)]; omega
              have HS := hide (show Nat.gcd j (i % j) = Nat.gcd (a - c).natAbs (b - d).natAbs by rw [← HG.out, Nat.gcd_comm i j, Nat.gcd_rec j i, Nat.gcd_comm])
              go_wp2
              refine wp_late (by kernel_rfl) (by kernel_rfl) (fun u => ⟨#[_, _, _, u 4, u 5, _, _, _, _, _, _, _, _, _, _, _, _, _, _, _, _, _, _, _, _, _, _, _, _, _, _, _, _, _, _, _, _, _, _, _, u 0, u 1, u 2, u 3, _], _⟩) (fun i => List.getD [_, _, _, _, _, _] i undef) [is ?v32_0, is ?v32_1, is ?v32_2, is ?v32_3, is ?v32_4, is ?v32_5] (fun w' => True) _ rfl ?hC32 ?hs32 ?hV32 ?fin32
              case hC32 => exact fun _ _ => trivial
              case hs32 =>
                repeat' (first
                  | exact LSteps.nil
                  | refine LSteps.cons ?_ ?_
                  | ((first
                      | refine LStep.plain rfl ?_)
                     intro u w hW hC hd hu K hK
                     (try (have hl4 := hu 4 (by decide +kernel); simp at hl4; (try simp only [upd, Nat.reduceEqDiff, if_true, if_false] at hK); simp only [hl4] at hK ⊢))
                     (try (have hl5 := hu 5 (by decide +kernel); simp at hl5; (try simp only [upd, Nat.reduceEqDiff, if_true, if_false] at hK); simp only [hl5] at hK ⊢))
                     (try simp [vOf, is, Region.binds] at hd)
                     (try simp only [upd, Nat.reduceEqDiff, if_true, if_false] at hK)
                     (try simp only [hd] at hK)
                     go_simp
                     (first
                       | (refine hK _ _ ?_ ?_; (first | exact rfl); (repeat (first | exact Ext.refl _ | assumption | apply Ext.alloc | apply Ext.drew | apply Ext.drewN | (refine Ext.trans ?_ (by assumption))))))))
              case hV32 => (simp only [List.forall_mem_cons]; simp [stable_is])
              case fin32 =>
                intro u w2 hW2 hC2 hd
                simp only [AllV, is] at hd
                simp only [hd]
                clear hd
                clear q2
                go_wp2
                go_roundw
                case rel => exact ⟨j, i % j, by first | rfl | trivial, by first | rfl | trivial, by omega, by omega, HS.out, by (repeat (first | exact Ext.refl _ | assumption | apply Ext.alloc | apply Ext.drew | apply Ext.drewN | (refine Ext.trans ?_ (by assumption))))⟩
                case measure => simp [intOf]; omega
            · have e : j = 0 := by omega
              subst e
              go_wp2
              go_ret
              exact ⟨ret_int (by rw [← HG.out, Nat.gcd_zero_right]), hbl⟩
      · go_enter Try.func91, Try.ntmps91
        go_wp2_with ((go_at_call 101; refine (WallOk_any _ _ _ _ _).mono ?_; rintro e w1 ⟨rfl, hb⟩; have hcc := HB.out w1 (by (repeat (first | exact Ext.refl _ | assumption | apply Ext.alloc | apply Ext.drew | apply Ext.drewN | (refine Ext.trans ?_ (by assumption)))))))
        obtain ⟨wq, rfl⟩ : ∃ wq : World, wq = w1 := ⟨_, rfl⟩
        refine wp_flow (by kernel_rfl) (by kernel_rfl) (fun u => ⟨#[_, _, _, u 30, u 31, _, _, _, u 0, u 1, u 2, u 3, u 4, u 5, u 6, u 7, u 8, u 9, u 10, u 11, u 12, u 13, u 14, u 15, u 16, u 17, u 18, u 19, u 20, u 21, u 22, u 23, u 24, u 25, u 26, u 27, u 28, u 29, _, _, _, _, _, _, _], _⟩) (fun i => List.getD [_, _, _, _, _, _, _, _, _, _, _, _, _, _, _, _, _, _, _, _, _, _, _, _, _, _, _, _, _, _, _, _] i undef) [is ?v33_0, is ?v33_1, is ?v33_2, is ?v33_3, is ?v33_4, is ?v33_5, is ?v33_6, is ?v33_7, is ?v33_8, is ?v33_9, is ?v33_10, is ?v33_11, is ?v33_12, is ?v33_13, is ?v33_14, is ?v33_15, is ?v33_16, is ?v33_17, is ?v33_18, is ?v33_19, is ?v33_20, is ?v33_21, is ?v33_22, is ?v33_23, is ?v33_24, is ?v33_25, is ?v33_26, is ?v33_27, is ?v33_28, is ?v33_29, is ?v33_30, is ?v33_31] (fun w' => w'.cell? ⟨w.heap.size, 0, none⟩ = some (.int .i64 a) ∧ w'.cell? ⟨w.heap.size, 1, none⟩ = some (.int .i64 b) ∧ w'.cell? ⟨w.heap.size, 2, none⟩ = some (.int .i64 c) ∧ w'.cell? ⟨w.heap.size, 3, none⟩ = some (.int .i64 d) ∧ w.heap.size < w'.heap.size) _ rfl ?hC33 ?hs33 ?hV33 ?fin33
        case hC33 => exact fun w' hx => (by have hq : Ext _ w' := hx; have hf0 := HB.out w' (by (repeat (first | exact Ext.refl _ | assumption | apply Ext.alloc | apply Ext.drew | apply Ext.drewN | (refine Ext.trans ?_ (by assumption))))); and_intros <;> first | exact hf0 | exact hf0.1 | exact hf0.2.1 | exact hf0.2.2.1 | exact hf0.2.2.2.1 | exact hf0.2.2.2.2.1 | exact hf0.2.2.2.2.2.1 | exact hf0.2.2.2.2.2.2.1 | exact hf0.2.2.2.2.2.2.2.1 | exact hf0.2.2.2.2.2.2.2.2.1 | exact hf0.2.2.2.2.2.2.2.2.2.1 | exact hf0.2.2.2.2.2.2.2.2.2.2.1 | exact hf0.2.2.2.2.2.2.2.2.2.2.2.1 | exact hf0.2.2.2.2.2.2.2.2.2.2.2.2.1 | exact hf0.2.2.2.2.2.2.2.2.2.2.2.2.2.1 | exact hf0.2 | exact hf0.2.2 | exact hf0.2.2.2 | exact hf0.2.2.2.2 | exact hf0.2.2.2.2.2 | exact hf0.2.2.2.2.2.2 | exact hf0.2.2.2.2.2.2.2 | exact hf0.2.2.2.2.2.2.2.2 | exact hf0.2.2.2.2.2.2.2.2.2 | exact hf0.2.2.2.2.2.2.2.2.2.2 | exact hf0.2.2.2.2.2.2.2.2.2.2.2 | exact hf0.2.2.2.2.2.2.2.2.2.2.2.2 | exact hf0.2.2.2.2.2.2.2.2.2.2.2.2.2)
        case hs33 =>
          repeat' (first
            | exact FSteps.nil
            | refine FSteps.cons ?_ ?_
            | (refine FStep.off_ _ _ _ rfl rfl ?_ (fun _ => rfl) ?_; (focus (intro u w hd; simp [vOf, is, Region.binds] at hd; simp [hd])); (intro w'; exact rfl); done)
            | ((first
                | refine FStep.plain rfl ?_
                | (refine FStep.on_ _ _ _ rfl rfl ?_ ?_; (focus (intro u w hd; simp [vOf, is, Region.binds] at hd; simp [hd]))))
               intro u w hW hC hd K hK
               (try simp [vOf, is, Region.binds] at hd)
               simp only [upd, Nat.reduceEqDiff, if_true, if_false] at hK
               (try simp only [hd] at hK)
               go_simp
               (first
                 | (refine hK _ _ ?_ ?_; (first | exact rfl); (repeat (first | exact Ext.refl _ | assumption | apply Ext.alloc | apply Ext.drew | apply Ext.drewN | (refine Ext.trans ?_ (by assumption))))))))
        case hV33 => (simp only [List.forall_mem_cons]; simp [stable_is])
        case fin33 =>
          intro u w2 hW2 hC2 hd
          simp only [AllV, is] at hd
          simp only [hd]
          clear hd
          clear z1 z2 z3 z4 hC2 hcc
          have hxw : Ext w w2 := by (repeat (first | exact Ext.refl _ | assumption | apply Ext.alloc | apply Ext.drew | apply Ext.drewN | (refine Ext.trans ?_ (by assumption))))
          obtain ⟨wo, rfl⟩ : ∃ wo : World, wo = w2 := ⟨_, rfl⟩
          clear hb hW2
          go_wp2
          go_loopw [3, 4] (fun u v wr => ∃ i j : Nat, u = .int .i64 i ∧ v = .int .i64 j ∧ i ≤ 1000 ∧ j ≤ 1000 ∧ Hid (Nat.gcd i j = Nat.gcd (a - c).natAbs (b - d).natAbs) ∧ Ext w wr) (fun _ v _ => (intOf v).toNat)
          case atStart => exact ⟨(a - c).natAbs, (b - d).natAbs, by first | rfl | (congr 1; omega), by first | rfl | (congr 1; omega), by omega, by omega, rfl, hxw⟩
          case round =>
            obtain ⟨i, j, rfl, rfl, hi, hj, HG, hbl⟩ := hrel
            by_cases hlt : 0 < j
            · have hmod : i % j < j := Nat.mod_lt _ hlt
              have hb1 : j ≠ 0 := by omega
              have hb0 : ((j : Int) != 0) = true := by simp; omega
              have q2 : (i : Int).tmod (j : Int) = ((i % j : Nat) : Int) := by rw [Int.tmod_eq_emod_of_nonneg (by omega)]; omega
              have HS := hide (show Nat.gcd j (i % j) = Nat.gcd (a - c).natAbs (b - d).natAbs by rw [← HG.out, Nat.gcd_comm i j, Nat.gcd_rec j i, Nat.gcd_comm])
              go_wp2
              refine wp_late (by kernel_rfl) (by kernel_rfl) (fun u => ⟨#[_, _, _, u 4, u 5, _, _, _, _, _, _, _, _, _, _, _, _, _, _, _, _, _, _, _, _, _, _, _, _, _, _, _, _, _, _, _, _, _, _, _, u 0, u 1, u 2, u 3, _], _⟩) (fun i => List.getD [_, _, _, _, _, _] i undef) [is ?v34_0, is ?v34_1, is ?v34_2, is ?v34_3, is ?v34_4, is ?v34_5] (fun w' => True) _ rfl ?hC34 ?hs34 ?hV34 ?fin34
              case hC34 => exact fun _ _ => trivial
              case hs34 =>
                repeat' (first
                  | exact LSteps.nil
                  | refine LSteps.cons ?_ ?_
                  | ((first
                      | refine LStep.plain rfl ?_)
                     intro u w hW hC hd hu K hK
                     (try (have hl4 := hu 4 (by decide +kernel); simp at hl4; (try simp only [upd, Nat.reduceEqDiff, if_true, if_false] at hK); simp only [hl4] at hK ⊢))
                     (try (have hl5 := hu 5 (by decide +kernel); simp at hl5; (try simp only [upd, Nat.reduceEqDiff, if_true, if_false] at hK); simp only [hl5] at hK ⊢))
                     (try simp [vOf, is, Region.binds] at hd)
                     (try simp only [upd, Nat.reduceEqDiff, if_true, if_false] at hK)
                     (try simp only [hd] at hK)
                     go_simp
                     (first
                       | (refine hK _ _ ?_ ?_; (first | exact rfl); (repeat (first | exact Ext.refl _ | assumption | apply Ext.alloc | apply Ext.drew | apply Ext.drewN | (refine Ext.trans ?_ (by assumption))))))))
              case hV34 => (simp only [List.forall_mem_cons]; simp [stable_is])
              case fin34 =>
                intro u w2 hW2 hC2 hd
                simp only [AllV, is] at hd
                simp only [hd]
                clear hd
                clear q2
                go_wp2
                go_roundw
                case rel => exact ⟨j, i % j, by first | rfl | trivial, by first | rfl | trivial, by omega, by omega, HS.out, by (repeat (first | exact Ext.refl _ | assumption | apply Ext.alloc | apply Ext.drew | apply Ext.drewN | (refine Ext.trans ?_ (by assumption))))⟩
                case measure => simp [intOf]; omega
            · have e : j = 0 := by omega
              subst e
              go_wp2
              go_ret
              exact ⟨ret_int (by rw [← HG.out, Nat.gcd_zero_right]), hbl⟩
    · by_cases hy0 : b - d < d - b
      · go_enter Try.func91, Try.ntmps91
        go_wp2_with ((go_at_call 101; refine (WallOk_any _ _ _ _ _).mono ?_; rintro e w1 ⟨rfl, hb⟩; have hcc := HB.out w1 (by (repeat (first | exact Ext.refl _ | assumption | apply Ext.alloc | apply Ext.drew | apply Ext.drewN | (refine Ext.trans ?_ (by assumption)))))))
        obtain ⟨wq, rfl⟩ : ∃ wq : World, wq = w1 := ⟨_, rfl⟩
        refine wp_flow (by kernel_rfl) (by kernel_rfl) (fun u => ⟨#[_, _, _, u 30, u 31, _, _, _, u 0, u 1, u 2, u 3, u 4, u 5, u 6, u 7, u 8, u 9, u 10, u 11, u 12, u 13, u 14, u 15, u 16, u 17, u 18, u 19, u 20, u 21, u 22, u 23, u 24, u 25, u 26, u 27, u 28, u 29, _, _, _, _, _, _, _], _⟩) (fun i => List.getD [_, _, _, _, _, _, _, _, _, _, _, _, _, _, _, _, _, _, _, _, _, _, _, _, _, _, _, _, _, _, _, _] i undef) [is ?v35_0, is ?v35_1, is ?v35_2, is ?v35_3, is ?v35_4, is ?v35_5, is ?v35_6, is ?v35_7, is ?v35_8, is ?v35_9, is ?v35_10, is ?v35_11, is ?v35_12, is ?v35_13, is ?v35_14, is ?v35_15, is ?v35_16, is ?v35_17, is ?v35_18, is ?v35_19, is ?v35_20, is ?v35_21, is ?v35_22, is ?v35_23, is ?v35_24, is ?v35_25, is ?v35_26, is ?v35_27, is ?v35_28, is ?v35_29, is ?v35_30, is ?v35_31] (fun w' => w'.cell? ⟨w.heap.size, 0, none⟩ = some (.int .i64 a) ∧ w'.cell? ⟨w.heap.size, 1, none⟩ = some (.int .i64 b) ∧ w'.cell? ⟨w.heap.size, 2, none⟩ = some (.int .i64 c) ∧ w'.cell? ⟨w.heap.size, 3, none⟩ = some (.int .i64 d) ∧ w.heap.size < w'.heap.size) _ rfl ?hC35 ?hs35 ?hV35 ?fin35
        case hC35 => exact fun w' hx => (by have hq : Ext _ w' := hx; have hf0 := HB.out w' (by (repeat (first | exact Ext.refl _ | assumption | apply Ext.alloc | apply Ext.drew | apply Ext.drewN | (refine Ext.trans ?_ (by assumption))))); and_intros <;> first | exact hf0 | exact hf0.1 | exact hf0.2.1 | exact hf0.2.2.1 | exact hf0.2.2.2.1 | exact hf0.2.2.2.2.1 | exact hf0.2.2.2.2.2.1 | exact hf0.2.2.2.2.2.2.1 | exact hf0.2.2.2.2.2.2.2.1 | exact hf0.2.2.2.2.2.2.2.2.1 | exact hf0.2.2.2.2.2.2.2.2.2.1 | exact hf0.2.2.2.2.2.2.2.2.2.2.1 | exact hf0.2.2.2.2.2.2.2.2.2.2.2.1 | exact hf0.2.2.2.2.2.2.2.2.2.2.2.2.1 | exact hf0.2.2.2.2.2.2.2.2.2.2.2.2.2.1 | exact hf0.2 | exact hf0.2.2 | exact hf0.2.2.2 | exact hf0.2.2.2.2 | exact hf0.2.2.2.2.2 | exact hf0.2.2.2.2.2.2 | exact hf0.2.2.2.2.2.2.2 | exact hf0.2.2.2.2.2.2.2.2 | exact hf0.2.2.2.2.2.2.2.2.2 | exact hf0.2.2.2.2.2.2.2.2.2.2 | exact hf0.2.2.2.2.2.2.2.2.2.2.2 | exact hf0.2.2.2.2.2.2.2.2.2.2.2.2 | exact hf0.2.2.2.2.2.2.2.2.2.2.2.2.2)
        case hs35 =>
          repeat' (first
            | exact FSteps.nil
            | refine FSteps.cons ?_ ?_
            | (refine FStep.off_ _ _ _ rfl rfl ?_ (fun _ => rfl) ?_; (focus (intro u w hd; simp [vOf, is, Region.binds] at hd; simp [hd])); (intro w'; exact rfl); done)
            | ((first
                | refine FStep.plain rfl ?_
                | (refine FStep.on_ _ _ _ rfl rfl ?_ ?_; (focus (intro u w hd; simp [vOf, is, Region.binds] at hd; simp [hd]))))
               intro u w hW hC hd K hK
               (try simp [vOf, is, Region.binds] at hd)
               simp only [upd, Nat.reduceEqDiff, if_true, if_false] at hK
               (try simp only [hd] at hK)
               go_simp
               (first
                 | (refine hK _ _ ?_ ?_; (first | exact rfl); (repeat (first | exact Ext.refl _ | assumption | apply Ext.alloc | apply Ext.drew | apply Ext.drewN | (refine Ext.trans ?_ (by assumption))))))))
        case hV35 => (simp only [List.forall_mem_cons]; simp [stable_is])
        case fin35 =>
          intro u w2 hW2 hC2 hd
          simp only [AllV, is] at hd
          simp only [hd]
          clear hd
          clear z1 z2 z3 z4 hC2 hcc
          have hxw : Ext w w2 := by (repeat (first | exact Ext.refl _ | assumption | apply Ext.alloc | apply Ext.drew | apply Ext.drewN | (refine Ext.trans ?_ (by assumption))))
          obtain ⟨wo, rfl⟩ : ∃ wo : World, wo = w2 := ⟨_, rfl⟩
          clear hb hW2
          go_wp2
          go_loopw [3, 4] (fun u v wr => ∃ i j : Nat, u = .int .i64 i ∧ v = .int .i64 j ∧ i ≤ 1000 ∧ j ≤ 1000 ∧ Hid (Nat.gcd i j = Nat.gcd (a - c).natAbs (b - d).natAbs) ∧ Ext w wr) (fun _ v _ => (intOf v).toNat)
          case atStart => exact ⟨(a - c).natAbs, (b - d).natAbs, by first | rfl | (congr 1; omega), by first | rfl | (congr 1; omega), by omega, by omega, rfl, hxw⟩
          case round =>
            obtain ⟨i, j, rfl, rfl, hi, hj, HG, hbl⟩ := hrel
            by_cases hlt : 0 < j
            · have hmod : i % j < j := Nat.mod_lt _ hlt
              have hb1 : j ≠ 0 := by omega
              have hb0 : ((j : Int) != 0) = true := by simp; omega
              have q2 : (i : Int).tmod (j : Int) = ((i % j : Nat) : Int) := by rw [Int.tmod_eq_emod_of_nonneg (by omega)]; omega
              have HS := hide (show Nat.gcd j (i % j) = Nat.gcd (a - c).natAbs (b - d).natAbs by rw [← HG.out, Nat.gcd_comm i j, Nat.gcd_rec j i, Nat.gcd_comm])
              go_wp2
              refine wp_late (by kernel_rfl) (by kernel_rfl) (fun u => ⟨#[_, _, _, u 4, u 5, _, _, _, _, _, _, _, _, _, _, _, _, _, _, _, _, _, _, _, _, _, _, _, _, _, _, _, _, _, _, _, _, _, _, _, u 0, u 1, u 2, u 3, _], _⟩) (fun i => List.getD [_, _, _, _, _, _] i undef) [is ?v36_0, is ?v36_1, is ?v36_2, is ?v36_3, is ?v36_4, is ?v36_5] (fun w' => True) _ rfl ?hC36 ?hs36 ?hV36 ?fin36
              case hC36 => exact fun _ _ => trivial
              case hs36 =>
                repeat' (first
                  | exact LSteps.nil
                  | refine LSteps.cons ?_ ?_
                  | ((first
                      | refine LStep.plain rfl ?_)
                     intro u w hW hC hd hu K hK
                     (try (have hl4 := hu 4 (by decide +kernel); simp at hl4; (try simp only [upd, Nat.reduceEqDiff, if_true, if_false] at hK); simp only [hl4] at hK ⊢))
                     (try (have hl5 := hu 5 (by decide +kernel); simp at hl5; (try simp only [upd, Nat.reduceEqDiff, if_true, if_false] at hK); simp only [hl5] at hK ⊢))
                     (try simp [vOf, is, Region.binds] at hd)
                     (try simp only [upd, Nat.reduceEqDiff, if_true, if_false] at hK)
                     (try simp only [hd] at hK)
                     go_simp
                     (first
                       | (refine hK _ _ ?_ ?_; (first | exact rfl); (repeat (first | exact Ext.refl _ | assumption | apply Ext.alloc | apply Ext.drew | apply Ext.drewN | (refine Ext.trans ?_ (by assumption))))))))
              case hV36 => (simp only [List.forall_mem_cons]; simp [stable_is])
              case fin36 =>
                intro u w2 hW2 hC2 hd
                simp only [AllV, is] at hd
                simp only [hd]
                clear hd
                clear q2
                go_wp2
                go_roundw
                case rel => exact ⟨j, i % j, by first | rfl | trivial, by first | rfl | trivial, by omega, by omega, HS.out, by (repeat (first | exact Ext.refl _ | assumption | apply Ext.alloc | apply Ext.drew | apply Ext.drewN | (refine Ext.trans ?_ (by assumption))))⟩
                case measure => simp [intOf]; omega
            · have e : j = 0 := by omega
              subst e
              go_wp2
              go_ret
              exact ⟨ret_int (by rw [← HG.out, Nat.gcd_zero_right]), hbl⟩
      · go_enter Try.func91, Try.ntmps91
        go_wp2_with ((go_at_call 101; refine (WallOk_any _ _ _ _ _).mono ?_; rintro e w1 ⟨rfl, hb⟩; have hcc := HB.out w1 (by (repeat (first | exact Ext.refl _ | assumption | apply Ext.alloc | apply Ext.drew | apply Ext.drewN | (refine Ext.trans ?_ (by assumption)))))))
        obtain ⟨wq, rfl⟩ : ∃ wq : World, wq = w1 := ⟨_, rfl⟩
        refine wp_flow (by kernel_rfl) (by kernel_rfl) (fun u => ⟨#[_, _, _, u 30, u 31, _, _, _, u 0, u 1, u 2, u 3, u 4, u 5, u 6, u 7, u 8, u 9, u 10, u 11, u 12, u 13, u 14, u 15, u 16, u 17, u 18, u 19, u 20, u 21, u 22, u 23, u 24, u 25, u 26, u 27, u 28, u 29, _, _, _, _, _, _, _], _⟩) (fun i => List.getD [_, _, _, _, _, _, _, _, _, _, _, _, _, _, _, _, _, _, _, _, _, _, _, _, _, _, _, _, _, _, _, _] i undef) [is ?v37_0, is ?v37_1, is ?v37_2, is ?v37_3, is ?v37_4, is ?v37_5, is ?v37_6, is ?v37_7, is ?v37_8, is ?v37_9, is ?v37_10, is ?v37_11, is ?v37_12, is ?v37_13, is ?v37_14, is ?v37_15, is ?v37_16, is ?v37_17, is ?v37_18, is ?v37_19, is ?v37_20, is ?v37_21, is ?v37_22, is ?v37_23, is ?v37_24, is ?v37_25, is ?v37_26, is ?v37_27, is ?v37_28, is ?v37_29, is ?v37_30, is ?v37_31] (fun w' => w'.cell? ⟨w.heap.size, 0, none⟩ = some (.int .i64 a) ∧ w'.cell? ⟨w.heap.size, 1, none⟩ = some (.int .i64 b) ∧ w'.cell? ⟨w.heap.size, 2, none⟩ = some (.int .i64 c) ∧ w'.cell? ⟨w.heap.size, 3, none⟩ = some (.int .i64 d) ∧ w.heap.size < w'.heap.size) _ rfl ?hC37 ?hs37 ?hV37 ?fin37
        case hC37 => exact fun w' hx => (by have hq : Ext _ w' := hx; have hf0 := HB.out w' (by (repeat (first | exact Ext.refl _ | assumption | apply Ext.alloc | apply Ext.drew | apply Ext.drewN | (refine Ext.trans ?_ (by assumption))))); and_intros <;> first | exact hf0 | exact hf0.1 | exact hf0.2.1 | exact hf0.2.2.1 | exact hf0.2.2.2.1 | exact hf0.2.2.2.2.1 | exact hf0.2.2.2.2.2.1 | exact hf0.2.2.2.2.2.2.1 | exact hf0.2.2.2.2.2.2.2.1 | exact hf0.2.2.2.2.2.2.2.2.1 | exact hf0.2.2.2.2.2.2.2.2.2.1 | exact hf0.2.2.2.2.2.2.2.2.2.2.1 | exact hf0.2.2.2.2.2.2.2.2.2.2.2.1 | exact hf0.2.2.2.2.2.2.2.2.2.2.2.2.1 | exact hf0.2.2.2.2.2.2.2.2.2.2.2.2.2.1 | exact hf0.2 | exact hf0.2.2 | exact hf0.2.2.2 | exact hf0.2.2.2.2 | exact hf0.2.2.2.2.2 | exact hf0.2.2.2.2.2.2 | exact hf0.2.2.2.2.2.2.2 | exact hf0.2.2.2.2.2.2.2.2 | exact hf0.2.2.2.2.2.2.2.2.2 | exact hf0.2.2.2.2.2.2.2.2.2.2 | exact hf0.2.2.2.2.2.2.2.2.2.2.2 | exact hf0.2.2.2.2.2.2.2.2.2.2.2.2 | exact hf0.2.2.2.2.2.2.2.2.2.2.2.2.2)
        case hs37 =>
          repeat' (first
            | exact FSteps.nil
            | refine FSteps.cons ?_ ?_
            | (refine FStep.off_ _ _ _ rfl rfl ?_ (fun _ => rfl) ?_; (focus (intro u w hd; simp [vOf, is, Region.binds] at hd; simp [hd])); (intro w'; exact rfl); done)
            | ((first
                | refine FStep.plain rfl ?_
                | (refine FStep.on_ _ _ _ rfl rfl ?_ ?_; (focus (intro u w hd; simp [vOf, is, Region.binds] at hd; simp [hd]))))
               intro u w hW hC hd K hK
               (try simp [vOf, is, Region.binds] at hd)
               simp only [upd, Nat.reduceEqDiff, if_true, if_false] at hK
               (try simp only [hd] at hK)
               go_simp
               (first
                 | (refine hK _ _ ?_ ?_; (first | exact rfl); (repeat (first | exact Ext.refl _ | assumption | apply Ext.alloc | apply Ext.drew | apply Ext.drewN | (refine Ext.trans ?_ (by assumption))))))))
        case hV37 => (simp only [List.forall_mem_cons]; simp [stable_is])
        case fin37 =>
          intro u w2 hW2 hC2 hd
          simp only [AllV, is] at hd
          simp only [hd]
          clear hd
          clear z1 z2 z3 z4 hC2 hcc
          have hxw : Ext w w2 := by (repeat (first | exact Ext.refl _ | assumption | apply Ext.alloc | apply Ext.drew | apply Ext.drewN | (refine Ext.trans ?_ (by assumption))))
          obtain ⟨wo, rfl⟩ : ∃ wo : World, wo = w2 := ⟨_, rfl⟩
          clear hb hW2
          go_wp2
          go_loopw [3, 4] (fun u v wr => ∃ i j : Nat, u = .int .i64 i ∧ v = .int .i64 j ∧ i ≤ 1000 ∧ j ≤ 1000 ∧ Hid (Nat.gcd i j = Nat.gcd (a - c).natAbs (b - d).natAbs) ∧ Ext w wr) (fun _ v _ => (intOf v).toNat)
          case atStart => exact ⟨(a - c).natAbs, (b - d).natAbs, by first | rfl | (congr 1; omega), by first | rfl | (congr 1; omega), by omega, by omega, rfl, hxw⟩
          case round =>
            obtain ⟨i, j, rfl, rfl, hi, hj, HG, hbl⟩ := hrel
            by_cases hlt : 0 < j
            · have hmod : i % j < j := Nat.mod_lt _ hlt
              have hb1 : j ≠ 0 := by omega
              have hb0 : ((j : Int) != 0) = true := by simp; omega
              have q2 : (i : Int).tmod (j : Int) = ((i % j : Nat) : Int) := by rw [Int.tmod_eq_emod_of_nonneg (by omega)]; omega
              have HS := hide (show Nat.gcd j (i % j) = Nat.gcd (a - c).natAbs (b - d).natAbs by rw [← HG.out, Nat.gcd_comm i j, Nat.gcd_rec j i, Nat.gcd_comm])
              go_wp2
              refine wp_late (by kernel_rfl) (by kernel_rfl) (fun u => ⟨#[_, _, _, u 4, u 5, _, _, _, _, _, _, _, _, _, _, _, _, _, _, _, _, _, _, _, _, _, _, _, _, _, _, _, _, _, _, _, _, _, _, _, u 0, u 1, u 2, u 3, _], _⟩) (fun i => List.getD [_, _, _, _, _, _] i undef) [is ?v38_0, is ?v38_1, is ?v38_2, is ?v38_3, is ?v38_4, is ?v38_5] (fun w' => True) _ rfl ?hC38 ?hs38 ?hV38 ?fin38
              case hC38 => exact fun _ _ => trivial
              case hs38 =>
                repeat' (first
                  | exact LSteps.nil
                  | refine LSteps.cons ?_ ?_
                  | ((first
                      | refine LStep.plain rfl ?_)
                     intro u w hW hC hd hu K hK
                     (try (have hl4 := hu 4 (by decide +kernel); simp at hl4; (try simp only [upd, Nat.reduceEqDiff, if_true, if_false] at hK); simp only [hl4] at hK ⊢))
                     (try (have hl5 := hu 5 (by decide +kernel); simp at hl5; (try simp only [upd, Nat.reduceEqDiff, if_true, if_false] at hK); simp only [hl5] at hK ⊢))
                     (try simp [vOf, is, Region.binds] at hd)
                     (try simp only [upd, Nat.reduceEqDiff, if_true, if_false] at hK)
                     (try simp only [hd] at hK)
                     go_simp
                     (first
                       | (refine hK _ _ ?_ ?_; (first | exact rfl); (repeat (first | exact Ext.refl _ | assumption | apply Ext.alloc | apply Ext.drew | apply Ext.drewN | (refine Ext.trans ?_ (by assumption))))))))
              case hV38 => (simp only [List.forall_mem_cons]; simp [stable_is])
              case fin38 =>
                intro u w2 hW2 hC2 hd
                simp only [AllV, is] at hd
                simp only [hd]
                clear hd
                clear q2
                go_wp2
                go_roundw
                case rel => exact ⟨j, i % j, by first | rfl | trivial, by first | rfl | trivial, by omega, by omega, HS.out, by (repeat (first | exact Ext.refl _ | assumption | apply Ext.alloc | apply Ext.drew | apply Ext.drewN | (refine Ext.trans ?_ (by assumption))))⟩
                case measure => simp [intOf]; omega
            · have e : j = 0 := by omega
              subst e
              go_wp2
              go_ret
              exact ⟨ret_int (by rw [← HG.out, Nat.gcd_zero_right]), hbl⟩

set_option maxHeartbeats 800000 in
theorem sLatticeSteps_any (a b c d : Int) (w : World) :
    Calls Try.prog 90 #[.agg #[.int .i64 a, .int .i64 b, .int .i64 c, .int .i64 d]] w fun e w' => e = .returned (.int .i64 (latV a b c d)) ∧ Ext w w' := by
  have HB : Hid (∀ w', Ext (w.alloc (.cells #[.int .i64 a, .int .i64 b, .int .i64 c, .int .i64 d] 40)) w' → w'.cell? ⟨w.heap.size, 0, none⟩ = some (.int .i64 a) ∧ w'.cell? ⟨w.heap.size, 1, none⟩ = some (.int .i64 b) ∧ w'.cell? ⟨w.heap.size, 2, none⟩ = some (.int .i64 c) ∧ w'.cell? ⟨w.heap.size, 3, none⟩ = some (.int .i64 d) ∧ w.heap.size < w'.heap.size) := fun w' hx => by
    and_intros <;> (first | (have hz := hx.size; simp at hz; omega) | ((first | rw [hx.cells _ _ (by first | (simp; done) | (simp; omega))] | rw [hx.frozens _ _ (by first | (simp; done) | (simp; omega))]); (first | (simp [go_sem]; done) | (simp [go_sem, World.cell?_alloc_past]; done) | (simp [go_sem, World.frozen?]; done))))
  unfold latV
  cases h : wok a b c d
  · go_enter Try.func90, Try.ntmps90
    go_wp2_with ((go_at_call 99; refine (sWallOk_any _ _ _ _ _).mono ?_; rintro e w1 ⟨rfl, hb⟩; have hcc := HB.out w1 (by (repeat (first | exact Ext.refl _ | assumption | apply Ext.alloc | apply Ext.drew | apply Ext.drewN | (refine Ext.trans ?_ (by assumption)))))))
    go_ret
    exact ⟨rfl, by (repeat (first | exact Ext.refl _ | assumption | apply Ext.alloc | apply Ext.drew | apply Ext.drewN | (refine Ext.trans ?_ (by assumption))))⟩
  · obtain ⟨⟨⟨a1, a2⟩, b1, b2⟩, ⟨⟨c1, c2⟩, d1, d2⟩, hne⟩ := wok_bd h
    have HNE := hide hne
    clear hne
    have e1 : (c - a).natAbs = (a - c).natAbs := by omega
    have e2 : (d - b).natAbs = (b - d).natAbs := by omega
    have HE := hide (show Nat.gcd (c - a).natAbs (d - b).natAbs = Nat.gcd (a - c).natAbs (b - d).natAbs by rw [e1, e2])
    clear e1 e2
    go_enter Try.func90, Try.ntmps90
    go_wp2_with (first | (go_at_call 99; refine (sWallOk_any _ _ _ _ _).mono ?_; rintro e w1 ⟨rfl, hb⟩; have hcc := HB.out w1 (by (repeat (first | exact Ext.refl _ | assumption | apply Ext.alloc | apply Ext.drew | apply Ext.drewN | (refine Ext.trans ?_ (by assumption)))))) | (go_at_call 104; refine (l03Gcd_any _ _ _ (by omega) (by omega)).mono ?_; rintro e w2 ⟨rfl, hb2⟩))
    go_ret
    exact ⟨ret_int (by rw [HE.out]), by (repeat (first | exact Ext.refl _ | assumption | apply Ext.alloc | apply Ext.drew | apply Ext.drewN | (refine Ext.trans ?_ (by assumption))))⟩

/-- the steps along the first k walls -/
def edgeTo (l : List (Int × Int)) : Nat → Int
  | 0 => 0
  | k + 1 => edgeTo l k + latV (gx l k) (gy l k) (gx l (nx l k)) (gy l (nx l k))
theorem edgeTo_succ (l : List (Int × Int)) (k : Nat) : edgeTo l (k + 1) = edgeTo l k + latV (gx l k) (gy l k) (gx l (nx l k)) (gy l (nx l k)) := rfl
theorem edgeTo_bd (l : List (Int × Int)) : ∀ k, 0 ≤ edgeTo l k ∧ edgeTo l k ≤ 80 * (k : Int)
  | 0 => by simp [edgeTo]
  | k + 1 => by
    have h1 := edgeTo_bd l k
    have h2 := latV_bd (gx l k) (gy l k) (gx l (nx l k)) (gy l (nx l k))
    rw [edgeTo_succ]
    omega
/-- EdgePoints, as both texts give it -/
def edgeV (l : List (Int × Int)) : Int := if roomB l = true then edgeTo l l.length else 0
theorem edgeV_bd (l : List (Int × Int)) (h : l.length ≤ 10) : 0 ≤ edgeV l ∧ edgeV l ≤ 800 := by
  have := edgeTo_bd l l.length
  unfold edgeV
  split <;> omega

set_option maxRecDepth 100000 in
set_option maxHeartbeats 1600000 in
theorem EdgePoints_any (A : Option Addr) (l : List (Int × Int)) (c : Nat) (w : World) (hp : RPts w A l) (hn : l.length ≤ 1048576) :
    Calls Try.prog 45 #[.agg #[.slice A l.length c]] w fun e w' => e = .returned (.int .i64 (edgeV l)) ∧ Ext w w' := by
  have HB : Hid (∀ w', Ext (w.alloc (.cells #[.slice A l.length c] 29)) w' → w'.cell? ⟨w.heap.size, 0, none⟩ = some (.slice A l.length c) ∧ w.heap.size < w'.heap.size) := fun w' hx => by
    and_intros <;> (first | (have hz := hx.size; simp at hz; omega) | ((first | rw [hx.cells _ _ (by first | (simp; done) | (simp; omega))] | rw [hx.frozens _ _ (by first | (simp; done) | (simp; omega))]); (first | (simp [go_sem]; done) | (simp [go_sem, World.cell?_alloc_past]; done) | (simp [go_sem, World.frozen?]; done))))
  cases hr : roomB l
  · have HV := hide (show edgeV l = 0 by simp [edgeV, hr])
    go_enter Try.func45, Try.ntmps45
    go_wp2_with ((go_at_call 24; refine (RoomOk_any _ _ _ _ (hp.ext (by (repeat (first | exact Ext.refl _ | assumption | apply Ext.alloc | apply Ext.drew | apply Ext.drewN | (refine Ext.trans ?_ (by assumption)))))) hn).mono ?_; rintro e w1 ⟨rfl, hb⟩; have hcc := HB.out w1 (by (repeat (first | exact Ext.refl _ | assumption | apply Ext.alloc | apply Ext.drew | apply Ext.drewN | (refine Ext.trans ?_ (by assumption)))))))
    go_ret
    exact ⟨ret_int (by rw [HV.out]), by (repeat (first | exact Ext.refl _ | assumption | apply Ext.alloc | apply Ext.drew | apply Ext.drewN | (refine Ext.trans ?_ (by assumption))))⟩
  · have hl := (roomB_fine hr).1.2
    have HV := hide (show edgeV l = edgeTo l l.length by simp [edgeV, hr])
    go_enter Try.func45, Try.ntmps45
    go_wp2_with (first | (go_at_call 24; refine (RoomOk_any _ _ _ _ (hp.ext (by (repeat (first | exact Ext.refl _ | assumption | apply Ext.alloc | apply Ext.drew | apply Ext.drewN | (refine Ext.trans ?_ (by assumption)))))) hn).mono ?_; rintro e w1 ⟨rfl, hb⟩; have hcc := HB.out w1 (by (repeat (first | exact Ext.refl _ | assumption | apply Ext.alloc | apply Ext.drew | apply Ext.drewN | (refine Ext.trans ?_ (by assumption)))))) | (go_at_call 78; refine (wallsOf_any _ _ _ _ (hp.ext (by (repeat (first | exact Ext.refl _ | assumption | apply Ext.alloc | apply Ext.drew | apply Ext.drewN | (refine Ext.trans ?_ (by assumption)))))) hn).mono ?_; rintro e wa ⟨A', c', rfl, hrw, hx⟩))
    go_loopw [3, 13] (fun s i wr => ∃ k : Nat, k ≤ l.length ∧ i = .int .i64 k ∧ s = .int .i64 (edgeTo l k) ∧ Ext wa wr) (fun _ i _ => l.length - (intOf i).toNat)
    case atStart => exact ⟨0, Nat.zero_le _, rfl, rfl, Ext.refl _⟩
    case round =>
      obtain ⟨k, hk, rfl, rfl, hbl⟩ := hrel
      obtain ⟨wq, rfl⟩ : ∃ wq : World, wq = wr := ⟨_, rfl⟩
      by_cases hlt : k < l.length
      · obtain ⟨g, rfl, hg, c1, c2, c3, c4⟩ := (hrw.ext hbl) k hlt
        have he := edgeTo_bd l k
        have hla := latV_bd (gx l k) (gy l k) (gx l (nx l k)) (gy l (nx l k))
        have HS := hide (edgeTo_succ l k)
        go_wp2_with (go_at_call 91; refine (LatticeSteps_any _ _ _ _ _).mono ?_; rintro e w3 ⟨rfl, hb3⟩)
        go_roundw
        case rel => exact ⟨k + 1, by omega, by go_num, by rw [HS.out], by (repeat (first | exact Ext.refl _ | assumption | apply Ext.alloc | apply Ext.drew | apply Ext.drewN | (refine Ext.trans ?_ (by assumption))))⟩
        case measure => simp [intOf]; omega
      · have e : k = l.length := by omega
        have E := hide e
        clear e
        go_wp2
        go_ret
        exact ⟨ret_int (by rw [HV.out, E.out]), by (repeat (first | exact Ext.refl _ | assumption | apply Ext.alloc | apply Ext.drew | apply Ext.drewN | (refine Ext.trans ?_ (by assumption))))⟩

set_option maxRecDepth 100000 in
set_option maxHeartbeats 1600000 in
theorem sEdgePoints_any (A : Option Addr) (l : List (Int × Int)) (c : Nat) (w : World) (hp : RPts w A l) (hn : l.length ≤ 1048576) :
    Calls Try.prog 44 #[.agg #[.slice A l.length c]] w fun e w' => e = .returned (.int .i64 (edgeV l)) ∧ Ext w w' := by
  have HB : Hid (∀ w', Ext (w.alloc (.cells #[.slice A l.length c] 29)) w' → w'.cell? ⟨w.heap.size, 0, none⟩ = some (.slice A l.length c) ∧ w.heap.size < w'.heap.size) := fun w' hx => by
    and_intros <;> (first | (have hz := hx.size; simp at hz; omega) | ((first | rw [hx.cells _ _ (by first | (simp; done) | (simp; omega))] | rw [hx.frozens _ _ (by first | (simp; done) | (simp; omega))]); (first | (simp [go_sem]; done) | (simp [go_sem, World.cell?_alloc_past]; done) | (simp [go_sem, World.frozen?]; done))))
  cases hr : roomB l
  · have HV := hide (show edgeV l = 0 by simp [edgeV, hr])
    go_enter Try.func44, Try.ntmps44
    go_wp2
    go_loopw [3, 4] (fun s i wr => i = .int .i64 0 ∧ Ext (w.alloc (.cells #[.slice A l.length c] 29)) wr ∧ s = .int .i64 0) (fun _ i _ => 0)
    case atStart => exact ⟨rfl, by (repeat (first | exact Ext.refl _ | assumption | apply Ext.alloc | apply Ext.drew | apply Ext.drewN | (refine Ext.trans ?_ (by assumption)))), rfl⟩
    case round =>
      obtain ⟨rfl, hbl, rfl⟩ := hrel
      have hcb := HB.out wr hbl
      by_cases h0 : 0 < l.length
      · go_wp2_with (go_at_call 22; refine (sRoomOk_any _ _ _ _ (hp.ext (by (repeat (first | exact Ext.refl _ | assumption | apply Ext.alloc | apply Ext.drew | apply Ext.drewN | (refine Ext.trans ?_ (by assumption)))))) hn).mono ?_; rintro e w1 ⟨rfl, hb1⟩)
        go_ret
        exact ⟨ret_int (by rw [HV.out]), by (repeat (first | exact Ext.refl _ | assumption | apply Ext.alloc | apply Ext.drew | apply Ext.drewN | (refine Ext.trans ?_ (by assumption))))⟩
      · go_wp2
        go_ret
        exact ⟨ret_int (by rw [HV.out]), by (repeat (first | exact Ext.refl _ | assumption | apply Ext.alloc | apply Ext.drew | apply Ext.drewN | (refine Ext.trans ?_ (by assumption))))⟩
  · have hl := (roomB_fine hr).1.2
    have HV := hide (show edgeV l = edgeTo l l.length by simp [edgeV, hr])
    go_enter Try.func44, Try.ntmps44
    go_wp2
    go_loopw [3, 4] (fun s i wr => ∃ k : Nat, k ≤ l.length ∧ i = .int .i64 k ∧ s = .int .i64 (edgeTo l k) ∧ Ext (w.alloc (.cells #[.slice A l.length c] 29)) wr) (fun _ i _ => l.length - (intOf i).toNat)
    case atStart => exact ⟨0, Nat.zero_le _, rfl, rfl, Ext.refl _⟩
    case round =>
      obtain ⟨k, hk, rfl, rfl, hbl⟩ := hrel
      obtain ⟨wq, rfl⟩ : ∃ wq : World, wq = wr := ⟨_, rfl⟩
      have hcb := HB.out wq hbl
      by_cases hlt : k < l.length
      · have he := edgeTo_bd l k
        have hla := latV_bd (gx l k) (gy l k) (gx l (nx l k)) (gy l (nx l k))
        have HS := hide (edgeTo_succ l k)
        go_wp2_with (first | (go_at_call 22; refine (sRoomOk_any _ _ _ _ (hp.ext (by (repeat (first | exact Ext.refl _ | assumption | apply Ext.alloc | apply Ext.drew | apply Ext.drewN | (refine Ext.trans ?_ (by assumption)))))) hn).mono ?_; rintro e w1 ⟨rfl, hb1⟩; have hcb1 := HB.out w1 (by (repeat (first | exact Ext.refl _ | assumption | apply Ext.alloc | apply Ext.drew | apply Ext.drewN | (refine Ext.trans ?_ (by assumption)))))) | (go_at_call 34; refine (sWallOf_yes _ _ _ _ _ (hp.ext (by (repeat (first | exact Ext.refl _ | assumption | apply Ext.alloc | apply Ext.drew | apply Ext.drewN | (refine Ext.trans ?_ (by assumption)))))) hn hlt hr).mono ?_; unfold wallA; rintro e w2 ⟨rfl, hb2⟩) | (go_at_call 90; refine (sLatticeSteps_any _ _ _ _ _).mono ?_; rintro e w3 ⟨rfl, hb3⟩))
        go_roundw
        case rel => exact ⟨k + 1, by omega, by go_num, by rw [HS.out], by (repeat (first | exact Ext.refl _ | assumption | apply Ext.alloc | apply Ext.drew | apply Ext.drewN | (refine Ext.trans ?_ (by assumption))))⟩
        case measure => simp [intOf]; omega
      · have e : k = l.length := by omega
        have E := hide e
        clear e
        go_wp2
        go_ret
        exact ⟨ret_int (by rw [HV.out, E.out]), by (repeat (first | exact Ext.refl _ | assumption | apply Ext.alloc | apply Ext.drew | apply Ext.drewN | (refine Ext.trans ?_ (by assumption))))⟩

theorem tdiv2_bd (x : Int) (h1 : -1000000 ≤ x) (h2 : x ≤ 1000000) : -1000000 ≤ x.tdiv 2 ∧ x.tdiv 2 ≤ 1000000 := by
  rcases Int.le_total 0 x with h | h
  · rw [Int.tdiv_eq_ediv_of_nonneg h]; omega
  · obtain ⟨y, rfl⟩ : ∃ y, x = -y := ⟨-x, by omega⟩
    rw [Int.neg_tdiv, Int.tdiv_eq_ediv_of_nonneg (by omega)]; omega

/-- InnerPoints, as both texts give it -/
def innerV (l : List (Int × Int)) : Int := if roomB l = true then (areaZ l - edgeV l + 2).tdiv 2 else -1

set_option maxRecDepth 100000 in
set_option maxHeartbeats 800000 in
theorem InnerPoints_any (A : Option Addr) (l : List (Int × Int)) (c : Nat) (w : World) (hp : RPts w A l) (hn : l.length ≤ 1048576) :
    Calls Try.prog 60 #[.agg #[.slice A l.length c]] w fun e w' => e = .returned (.int .i64 (innerV l)) ∧ Ext w w' := by
  have HB : Hid (∀ w', Ext (w.alloc (.cells #[.slice A l.length c] 29)) w' → w'.cell? ⟨w.heap.size, 0, none⟩ = some (.slice A l.length c) ∧ w.heap.size < w'.heap.size) := fun w' hx => by
    and_intros <;> (first | (have hz := hx.size; simp at hz; omega) | ((first | rw [hx.cells _ _ (by first | (simp; done) | (simp; omega))] | rw [hx.frozens _ _ (by first | (simp; done) | (simp; omega))]); (first | (simp [go_sem]; done) | (simp [go_sem, World.cell?_alloc_past]; done) | (simp [go_sem, World.frozen?]; done))))
  unfold innerV
  cases hr : roomB l
  · go_enter Try.func60, Try.ntmps60
    go_wp2_with ((go_at_call 24; refine (RoomOk_any _ _ _ _ (hp.ext (by (repeat (first | exact Ext.refl _ | assumption | apply Ext.alloc | apply Ext.drew | apply Ext.drewN | (refine Ext.trans ?_ (by assumption)))))) hn).mono ?_; rintro e w1 ⟨rfl, hb⟩; have hcc := HB.out w1 (by (repeat (first | exact Ext.refl _ | assumption | apply Ext.alloc | apply Ext.drew | apply Ext.drewN | (refine Ext.trans ?_ (by assumption)))))))
    go_ret
    exact ⟨rfl, by (repeat (first | exact Ext.refl _ | assumption | apply Ext.alloc | apply Ext.drew | apply Ext.drewN | (refine Ext.trans ?_ (by assumption))))⟩
  · have hf := (roomB_fine hr).1
    have hl := hf.2
    have hz1 := areaTo_bd hf l.length (Nat.le_refl _)
    have hz2 := edgeV_bd l hl
    change -(3200 * (l.length : Int)) ≤ areaZ l ∧ areaZ l ≤ 3200 * (l.length : Int) at hz1
    have z1 := wrap_in (areaZ l - edgeV l) (by omega) (by omega)
    have z2 := wrap_in (areaZ l - edgeV l + 2) (by omega) (by omega)
    have z3 := tdiv2_bd (areaZ l - edgeV l + 2) (by omega) (by omega)
    have z4 := wrap_in ((areaZ l - edgeV l + 2).tdiv 2) (by omega) (by omega)
    clear z3
    go_enter Try.func60, Try.ntmps60
    go_wp2_with ((go_at_call 24; refine (RoomOk_any _ _ _ _ (hp.ext (by (repeat (first | exact Ext.refl _ | assumption | apply Ext.alloc | apply Ext.drew | apply Ext.drewN | (refine Ext.trans ?_ (by assumption)))))) hn).mono ?_; rintro e w1 ⟨rfl, hb⟩; have hcc := HB.out w1 (by (repeat (first | exact Ext.refl _ | assumption | apply Ext.alloc | apply Ext.drew | apply Ext.drewN | (refine Ext.trans ?_ (by assumption)))))))
    refine wp_flow (by kernel_rfl) (by kernel_rfl) (fun u => ⟨#[_, _, u 8, _, _, _, u 0, u 1, u 2, u 3, u 4, u 5, u 6, u 7], _⟩) (fun i => List.getD [_, _, _, _, _, _, _, _, _] i undef) [is ?v39_0, is ?v39_1, is ?v39_2, is ?v39_3, is ?v39_4, is ?v39_5, is ?v39_6, is ?v39_7, is ?v39_8] (fun w' => w'.cell? ⟨w.heap.size, 0, none⟩ = some (.slice A l.length c) ∧ w.heap.size < w'.heap.size) _ rfl ?hC39 ?hs39 ?hV39 ?fin39
    case hC39 => exact fun w' hx => (by have hq : Ext _ w' := hx; have hf0 := HB.out w' (by (repeat (first | exact Ext.refl _ | assumption | apply Ext.alloc | apply Ext.drew | apply Ext.drewN | (refine Ext.trans ?_ (by assumption))))); and_intros <;> first | exact hf0 | exact hf0.1 | exact hf0.2.1 | exact hf0.2.2.1 | exact hf0.2.2.2.1 | exact hf0.2.2.2.2.1 | exact hf0.2.2.2.2.2.1 | exact hf0.2.2.2.2.2.2.1 | exact hf0.2.2.2.2.2.2.2.1 | exact hf0.2.2.2.2.2.2.2.2.1 | exact hf0.2.2.2.2.2.2.2.2.2.1 | exact hf0.2.2.2.2.2.2.2.2.2.2.1 | exact hf0.2.2.2.2.2.2.2.2.2.2.2.1 | exact hf0.2.2.2.2.2.2.2.2.2.2.2.2.1 | exact hf0.2.2.2.2.2.2.2.2.2.2.2.2.2.1 | exact hf0.2 | exact hf0.2.2 | exact hf0.2.2.2 | exact hf0.2.2.2.2 | exact hf0.2.2.2.2.2 | exact hf0.2.2.2.2.2.2 | exact hf0.2.2.2.2.2.2.2 | exact hf0.2.2.2.2.2.2.2.2 | exact hf0.2.2.2.2.2.2.2.2.2 | exact hf0.2.2.2.2.2.2.2.2.2.2 | exact hf0.2.2.2.2.2.2.2.2.2.2.2 | exact hf0.2.2.2.2.2.2.2.2.2.2.2.2 | exact hf0.2.2.2.2.2.2.2.2.2.2.2.2.2)
    case hs39 =>
      repeat' (first
        | exact FSteps.nil
        | refine FSteps.cons ?_ ?_
        | (refine FStep.off_ _ _ _ rfl rfl ?_ (fun _ => rfl) ?_; (focus (intro u w hd; simp [vOf, is, Region.binds] at hd; simp [hd])); (intro w'; exact rfl); done)
        | ((first
            | refine FStep.plain rfl ?_
            | (refine FStep.on_ _ _ _ rfl rfl ?_ ?_; (focus (intro u w hd; simp [vOf, is, Region.binds] at hd; simp [hd]))))
           intro u w hW hC hd K hK
           (try simp [vOf, is, Region.binds] at hd)
           simp only [upd, Nat.reduceEqDiff, if_true, if_false] at hK
           (try simp only [hd] at hK)
           go_simp
           (first
             | (refine hK _ _ ?_ ?_; (first | exact rfl); (repeat (first | exact Ext.refl _ | assumption | apply Ext.alloc | apply Ext.drew | apply Ext.drewN | (refine Ext.trans ?_ (by assumption)))))
             | (go_at_call 81; refine (area_any _ _ _ _ (hp.ext (by (repeat (first | exact Ext.refl _ | assumption | apply Ext.alloc | apply Ext.drew | apply Ext.drewN | (refine Ext.trans ?_ (by assumption)))))) hf).mono ?_; rintro e w1 ⟨rfl, hb⟩; (try go_simp); refine hK _ _ ?_ ?_; (first | exact rfl); (repeat (first | exact Ext.refl _ | assumption | apply Ext.alloc | apply Ext.drew | apply Ext.drewN | (refine Ext.trans ?_ (by assumption)))))
             | (go_at_call 45; refine (EdgePoints_any _ _ _ _ (hp.ext (by (repeat (first | exact Ext.refl _ | assumption | apply Ext.alloc | apply Ext.drew | apply Ext.drewN | (refine Ext.trans ?_ (by assumption)))))) hn).mono ?_; rintro e w1 ⟨rfl, hb⟩; (try go_simp); refine hK _ _ ?_ ?_; (first | exact rfl); (repeat (first | exact Ext.refl _ | assumption | apply Ext.alloc | apply Ext.drew | apply Ext.drewN | (refine Ext.trans ?_ (by assumption))))))))
    case hV39 => (simp only [List.forall_mem_cons]; simp [stable_is])
    case fin39 =>
      intro u w2 hW2 hC2 hd
      simp only [AllV, is] at hd
      simp only [hd]
      clear hd
      clear z1 z2 z4
      go_wp2
      go_ret
      exact ⟨rfl, by (repeat (first | exact Ext.refl _ | assumption | apply Ext.alloc | apply Ext.drew | apply Ext.drewN | (refine Ext.trans ?_ (by assumption))))⟩

set_option maxRecDepth 100000 in
set_option maxHeartbeats 800000 in
theorem sInnerPoints_any (A : Option Addr) (l : List (Int × Int)) (c : Nat) (w : World) (hp : RPts w A l) (hn : l.length ≤ 1048576) :
    Calls Try.prog 59 #[.agg #[.slice A l.length c]] w fun e w' => e = .returned (.int .i64 (innerV l)) ∧ Ext w w' := by
  have HB : Hid (∀ w', Ext (w.alloc (.cells #[.slice A l.length c] 29)) w' → w'.cell? ⟨w.heap.size, 0, none⟩ = some (.slice A l.length c) ∧ w.heap.size < w'.heap.size) := fun w' hx => by
    and_intros <;> (first | (have hz := hx.size; simp at hz; omega) | ((first | rw [hx.cells _ _ (by first | (simp; done) | (simp; omega))] | rw [hx.frozens _ _ (by first | (simp; done) | (simp; omega))]); (first | (simp [go_sem]; done) | (simp [go_sem, World.cell?_alloc_past]; done) | (simp [go_sem, World.frozen?]; done))))
  unfold innerV
  cases hr : roomB l
  · go_enter Try.func59, Try.ntmps59
    go_wp2_with ((go_at_call 22; refine (sRoomOk_any _ _ _ _ (hp.ext (by (repeat (first | exact Ext.refl _ | assumption | apply Ext.alloc | apply Ext.drew | apply Ext.drewN | (refine Ext.trans ?_ (by assumption)))))) hn).mono ?_; rintro e w1 ⟨rfl, hb⟩; have hcc := HB.out w1 (by (repeat (first | exact Ext.refl _ | assumption | apply Ext.alloc | apply Ext.drew | apply Ext.drewN | (refine Ext.trans ?_ (by assumption)))))))
    go_ret
    exact ⟨rfl, by (repeat (first | exact Ext.refl _ | assumption | apply Ext.alloc | apply Ext.drew | apply Ext.drewN | (refine Ext.trans ?_ (by assumption))))⟩
  · have hf := (roomB_fine hr).1
    have hl := hf.2
    have hz1 := areaTo_bd hf l.length (Nat.le_refl _)
    have hz2 := edgeV_bd l hl
    change -(3200 * (l.length : Int)) ≤ areaZ l ∧ areaZ l ≤ 3200 * (l.length : Int) at hz1
    have z1 := wrap_in (areaZ l - edgeV l) (by omega) (by omega)
    have z2 := wrap_in (areaZ l - edgeV l + 2) (by omega) (by omega)
    have z3 := tdiv2_bd (areaZ l - edgeV l + 2) (by omega) (by omega)
    have z4 := wrap_in ((areaZ l - edgeV l + 2).tdiv 2) (by omega) (by omega)
    clear z3
    go_enter Try.func59, Try.ntmps59
    go_wp2_with ((go_at_call 22; refine (sRoomOk_any _ _ _ _ (hp.ext (by (repeat (first | exact Ext.refl _ | assumption | apply Ext.alloc | apply Ext.drew | apply Ext.drewN | (refine Ext.trans ?_ (by assumption)))))) hn).mono ?_; rintro e w1 ⟨rfl, hb⟩; have hcc := HB.out w1 (by (repeat (first | exact Ext.refl _ | assumption | apply Ext.alloc | apply Ext.drew | apply Ext.drewN | (refine Ext.trans ?_ (by assumption)))))))
    refine wp_flow (by kernel_rfl) (by kernel_rfl) (fun u => ⟨#[_, _, u 8, _, _, _, u 0, u 1, u 2, u 3, u 4, u 5, u 6, u 7], _⟩) (fun i => List.getD [_, _, _, _, _, _, _, _, _] i undef) [is ?v40_0, is ?v40_1, is ?v40_2, is ?v40_3, is ?v40_4, is ?v40_5, is ?v40_6, is ?v40_7, is ?v40_8] (fun w' => w'.cell? ⟨w.heap.size, 0, none⟩ = some (.slice A l.length c) ∧ w.heap.size < w'.heap.size) _ rfl ?hC40 ?hs40 ?hV40 ?fin40
    case hC40 => exact fun w' hx => (by have hq : Ext _ w' := hx; have hf0 := HB.out w' (by (repeat (first | exact Ext.refl _ | assumption | apply Ext.alloc | apply Ext.drew | apply Ext.drewN | (refine Ext.trans ?_ (by assumption))))); and_intros <;> first | exact hf0 | exact hf0.1 | exact hf0.2.1 | exact hf0.2.2.1 | exact hf0.2.2.2.1 | exact hf0.2.2.2.2.1 | exact hf0.2.2.2.2.2.1 | exact hf0.2.2.2.2.2.2.1 | exact hf0.2.2.2.2.2.2.2.1 | exact hf0.2.2.2.2.2.2.2.2.1 | exact hf0.2.2.2.2.2.2.2.2.2.1 | exact hf0.2.2.2.2.2.2.2.2.2.2.1 | exact hf0.2.2.2.2.2.2.2.2.2.2.2.1 | exact hf0.2.2.2.2.2.2.2.2.2.2.2.2.1 | exact hf0.2.2.2.2.2.2.2.2.2.2.2.2.2.1 | exact hf0.2 | exact hf0.2.2 | exact hf0.2.2.2 | exact hf0.2.2.2.2 | exact hf0.2.2.2.2.2 | exact hf0.2.2.2.2.2.2 | exact hf0.2.2.2.2.2.2.2 | exact hf0.2.2.2.2.2.2.2.2 | exact hf0.2.2.2.2.2.2.2.2.2 | exact hf0.2.2.2.2.2.2.2.2.2.2 | exact hf0.2.2.2.2.2.2.2.2.2.2.2 | exact hf0.2.2.2.2.2.2.2.2.2.2.2.2 | exact hf0.2.2.2.2.2.2.2.2.2.2.2.2.2)
    case hs40 =>
      repeat' (first
        | exact FSteps.nil
        | refine FSteps.cons ?_ ?_
        | (refine FStep.off_ _ _ _ rfl rfl ?_ (fun _ => rfl) ?_; (focus (intro u w hd; simp [vOf, is, Region.binds] at hd; simp [hd])); (intro w'; exact rfl); done)
        | ((first
            | refine FStep.plain rfl ?_
            | (refine FStep.on_ _ _ _ rfl rfl ?_ ?_; (focus (intro u w hd; simp [vOf, is, Region.binds] at hd; simp [hd]))))
           intro u w hW hC hd K hK
           (try simp [vOf, is, Region.binds] at hd)
           simp only [upd, Nat.reduceEqDiff, if_true, if_false] at hK
           (try simp only [hd] at hK)
           go_simp
           (first
             | (refine hK _ _ ?_ ?_; (first | exact rfl); (repeat (first | exact Ext.refl _ | assumption | apply Ext.alloc | apply Ext.drew | apply Ext.drewN | (refine Ext.trans ?_ (by assumption)))))
             | (go_at_call 75; refine (sArea_any _ _ _ _ (hp.ext (by (repeat (first | exact Ext.refl _ | assumption | apply Ext.alloc | apply Ext.drew | apply Ext.drewN | (refine Ext.trans ?_ (by assumption)))))) hf).mono ?_; rintro e w1 ⟨rfl, hb⟩; (try go_simp); refine hK _ _ ?_ ?_; (first | exact rfl); (repeat (first | exact Ext.refl _ | assumption | apply Ext.alloc | apply Ext.drew | apply Ext.drewN | (refine Ext.trans ?_ (by assumption)))))
             | (go_at_call 44; refine (sEdgePoints_any _ _ _ _ (hp.ext (by (repeat (first | exact Ext.refl _ | assumption | apply Ext.alloc | apply Ext.drew | apply Ext.drewN | (refine Ext.trans ?_ (by assumption)))))) hn).mono ?_; rintro e w1 ⟨rfl, hb⟩; (try go_simp); refine hK _ _ ?_ ?_; (first | exact rfl); (repeat (first | exact Ext.refl _ | assumption | apply Ext.alloc | apply Ext.drew | apply Ext.drewN | (refine Ext.trans ?_ (by assumption))))))))
    case hV40 => (simp only [List.forall_mem_cons]; simp [stable_is])
    case fin40 =>
      intro u w2 hW2 hC2 hd
      simp only [AllV, is] at hd
      simp only [hd]
      clear hd
      clear z1 z2 z4
      go_wp2
      go_ret
      exact ⟨rfl, by (repeat (first | exact Ext.refl _ | assumption | apply Ext.alloc | apply Ext.drew | apply Ext.drewN | (refine Ext.trans ?_ (by assumption))))⟩

end Go.Proofs.Ytngapnmegembaaa
