/-
  Contracts: whole points on a wall.
-/
import Derived.Test.YtlghppkifccakaaMeet
import Derived.Test.YtlghppkifccakaaLate
namespace Go.Proofs.Ytlghppkifccakaa
open Go.RowKit

/-- LatticeSteps, as both texts give it -/
def latV (a b c d : Int) : Int := if wok a b c d = true then (Nat.gcd (a - c).natAbs (b - d).natAbs : Int) else 0

theorem wok_bd {a b c d : Int} (h : wok a b c d = true) : ((-40 ≤ a ∧ a ≤ 40) ∧ (-40 ≤ b ∧ b ≤ 40)) ∧ ((-40 ≤ c ∧ c ≤ 40) ∧ (-40 ≤ d ∧ d ≤ 40)) ∧ (a ≠ c ∨ b ≠ d) := by
  unfold wok pok2 neB at h
  simp only [Bool.and_eq_true, Bool.not_eq_true', Bool.and_eq_false_iff, beq_eq_false_iff_ne] at h
  exact ⟨(pok_iff _ _).1 h.1.1, (pok_iff _ _).1 h.1.2, h.2⟩

theorem latV_bd (a b c d : Int) : 0 ≤ latV a b c d ∧ latV a b c d ≤ 80 := by
  unfold latV
  split
  · rename_i h
    obtain ⟨h1, h2, h3⟩ := wok_bd h
    refine ⟨by omega, ?_⟩
    have h4 : (a - c).natAbs ≤ 80 := by omega
    have h5 : (b - d).natAbs ≤ 80 := by omega
    rcases Nat.eq_zero_or_pos (a - c).natAbs with h0 | h0
    · rw [h0, Nat.gcd_zero_left]; omega
    · have := Nat.gcd_le_left (b - d).natAbs h0; omega
  · omega

theorem max_abs (x y : Int) : max (x - y) (y - x) = ((x - y).natAbs : Int) := by omega
theorem max_neg_abs (x : Int) : max x (-x) = (x.natAbs : Int) := by omega


set_option maxRecDepth 100000 in
set_option maxHeartbeats 3200000 in
theorem l03Gcd_any (x y : Int) (w : World) (hx : -1000 ≤ x ∧ x ≤ 1000) (hy : -1000 ≤ y ∧ y ≤ 1000) :
    Calls Try.prog 44 #[.int .i64 x, .int .i64 y] w fun e w' => e = .returned (.int .i64 (Nat.gcd x.natAbs y.natAbs)) ∧ Ext w w' := by
  have zx := wrap_in (-x) (by omega) (by omega)
  have zy := wrap_in (-y) (by omega) (by omega)
  by_cases hx0 : x < -x
  · by_cases hy0 : y < -y
    · go_enter Try.func44, Try.ntmps44
      go_wp2
      clear zx zy
      go_loopw [0, 1] (fun p q wr => ∃ a b : Nat, p = .int .i64 a ∧ q = .int .i64 b ∧ a ≤ 1000 ∧ b ≤ 1000 ∧ Hid (Nat.gcd a b = Nat.gcd x.natAbs y.natAbs) ∧ Ext w wr) (fun _ q _ => (intOf q).toNat)
      case atStart => exact ⟨x.natAbs, y.natAbs, by first | rfl | (congr 1; omega), by first | rfl | (congr 1; omega), by omega, by omega, rfl, Ext.refl w⟩
      case round =>
        obtain ⟨a, b, rfl, rfl, ha, hb, HG, hbl⟩ := hrel
        by_cases hlt : 0 < b
        · have hmod : a % b < b := Nat.mod_lt _ hlt
          have hb0 : b ≠ 0 := by omega
          have q2 : (a : Int).tmod (b : Int) = ((a % b : Nat) : Int) := by rw [Int.tmod_eq_emod_of_nonneg (by omega)]; omega
          have HS := hide (show Nat.gcd b (a % b) = Nat.gcd x.natAbs y.natAbs by rw [← HG.out, Nat.gcd_comm a b, Nat.gcd_rec b a, Nat.gcd_comm])
          go_wp2
          refine wp_late (by kernel_rfl) (by kernel_rfl) (fun u => ⟨#[u 4, u 5, _, _, _, _, _, _, _, _, _, _, _, _, _, u 0, u 1, u 2, u 3, _], _⟩) (fun i => List.getD [_, _, _, _, _, _] i undef) [is ?v11_0, is ?v11_1, is ?v11_2, is ?v11_3, is ?v11_4, is ?v11_5] (fun w' => True) _ rfl ?hC11 ?hs11 ?hV11 ?fin11
          case hC11 => exact fun _ _ => trivial
          case hs11 =>
            repeat' (first
              | exact LSteps.nil
              | refine LSteps.cons ?_ ?_
              | ((first
                  | refine LStep.plain rfl ?_)
                 intro u w hW hC hd hu K hK
                 (try (have hl4 := hu 4 (by decide +kernel); simp at hl4; (try simp only [upd, Nat.reduceEqDiff, if_true, if_false] at hK); simp only [hl4] at hK ⊢))
                 (try (have hl5 := hu 5 (by decide +kernel); simp at hl5; (try simp only [upd, Nat.reduceEqDiff, if_true, if_false] at hK); simp only [hl5] at hK ⊢))
                 (try simp [vOf, is, Region.binds] at hd)
                 (try simp only [upd, Nat.reduceEqDiff, if_true, if_false] at hK)
                 (try simp only [hd] at hK)
                 go_simp
                 (first
                   | (refine hK _ _ ?_ ?_; (first | exact rfl); (repeat (first | exact Ext.refl _ | assumption | apply Ext.alloc | apply Ext.drew | apply Ext.drewN | (refine Ext.trans ?_ (by assumption))))))))
          case hV11 => (simp only [List.forall_mem_cons]; simp [stable_is])
          case fin11 =>
            intro u w2 hW2 hC2 hd
            simp only [AllV, is] at hd
            simp only [hd]
            clear hd
            clear q2
            go_wp2
            go_roundw
            case rel => exact ⟨b, a % b, by first | rfl | trivial, by first | rfl | trivial, by omega, by omega, HS.out, by (repeat (first | exact Ext.refl _ | assumption | apply Ext.alloc | apply Ext.drew | apply Ext.drewN | (refine Ext.trans ?_ (by assumption))))⟩
            case measure => simp [intOf]; omega
        · have e : b = 0 := by omega
          subst e
          go_wp2
          go_ret
          exact ⟨ret_int (by rw [← HG.out, Nat.gcd_zero_right]), hbl⟩
    · go_enter Try.func44, Try.ntmps44
      go_wp2
      clear zx zy
      go_loopw [0, 1] (fun p q wr => ∃ a b : Nat, p = .int .i64 a ∧ q = .int .i64 b ∧ a ≤ 1000 ∧ b ≤ 1000 ∧ Hid (Nat.gcd a b = Nat.gcd x.natAbs y.natAbs) ∧ Ext w wr) (fun _ q _ => (intOf q).toNat)
      case atStart => exact ⟨x.natAbs, y.natAbs, by first | rfl | (congr 1; omega), by first | rfl | (congr 1; omega), by omega, by omega, rfl, Ext.refl w⟩
      case round =>
        obtain ⟨a, b, rfl, rfl, ha, hb, HG, hbl⟩ := hrel
        by_cases hlt : 0 < b
        · have hmod : a % b < b := Nat.mod_lt _ hlt
          have hb0 : b ≠ 0 := by omega
          have q2 : (a : Int).tmod (b : Int) = ((a % b : Nat) : Int) := by rw [Int.tmod_eq_emod_of_nonneg (by omega)]; omega
          have HS := hide (show Nat.gcd b (a % b) = Nat.gcd x.natAbs y.natAbs by rw [← HG.out, Nat.gcd_comm a b, Nat.gcd_rec b a, Nat.gcd_comm])
          go_wp2
          refine wp_late (by kernel_rfl) (by kernel_rfl) (fun u => ⟨#[u 4, u 5, _, _, _, _, _, _, _, _, _, _, _, _, _, u 0, u 1, u 2, u 3, _], _⟩) (fun i => List.getD [_, _, _, _, _, _] i undef) [is ?v12_0, is ?v12_1, is ?v12_2, is ?v12_3, is ?v12_4, is ?v12_5] (fun w' => True) _ rfl ?hC12 ?hs12 ?hV12 ?fin12
          case hC12 => exact fun _ _ => trivial
          case hs12 =>
            repeat' (first
              | exact LSteps.nil
              | refine LSteps.cons ?_ ?_
              | ((first
                  | refine LStep.plain rfl ?_)
                 intro u w hW hC hd hu K hK
                 (try (have hl4 := hu 4 (by decide +kernel); simp at hl4; (try simp only [upd, Nat.reduceEqDiff, if_true, if_false] at hK); simp only [hl4] at hK ⊢))
                 (try (have hl5 := hu 5 (by decide +kernel); simp at hl5; (try simp only [upd, Nat.reduceEqDiff, if_true, if_false] at hK); simp only [hl5] at hK ⊢))
                 (try simp [vOf, is, Region.binds] at hd)
                 (try simp only [upd, Nat.reduceEqDiff, if_true, if_false] at hK)
                 (try simp only [hd] at hK)
                 go_simp
                 (first
                   | (refine hK _ _ ?_ ?_; (first | exact rfl); (repeat (first | exact Ext.refl _ | assumption | apply Ext.alloc | apply Ext.drew | apply Ext.drewN | (refine Ext.trans ?_ (by assumption))))))))
          case hV12 => (simp only [List.forall_mem_cons]; simp [stable_is])
          case fin12 =>
            intro u w2 hW2 hC2 hd
            simp only [AllV, is] at hd
            simp only [hd]
            clear hd
            clear q2
            go_wp2
            go_roundw
            case rel => exact ⟨b, a % b, by first | rfl | trivial, by first | rfl | trivial, by omega, by omega, HS.out, by (repeat (first | exact Ext.refl _ | assumption | apply Ext.alloc | apply Ext.drew | apply Ext.drewN | (refine Ext.trans ?_ (by assumption))))⟩
            case measure => simp [intOf]; omega
        · have e : b = 0 := by omega
          subst e
          go_wp2
          go_ret
          exact ⟨ret_int (by rw [← HG.out, Nat.gcd_zero_right]), hbl⟩
  · by_cases hy0 : y < -y
    · go_enter Try.func44, Try.ntmps44
      go_wp2
      clear zx zy
      go_loopw [0, 1] (fun p q wr => ∃ a b : Nat, p = .int .i64 a ∧ q = .int .i64 b ∧ a ≤ 1000 ∧ b ≤ 1000 ∧ Hid (Nat.gcd a b = Nat.gcd x.natAbs y.natAbs) ∧ Ext w wr) (fun _ q _ => (intOf q).toNat)
      case atStart => exact ⟨x.natAbs, y.natAbs, by first | rfl | (congr 1; omega), by first | rfl | (congr 1; omega), by omega, by omega, rfl, Ext.refl w⟩
      case round =>
        obtain ⟨a, b, rfl, rfl, ha, hb, HG, hbl⟩ := hrel
        by_cases hlt : 0 < b
        · have hmod : a % b < b := Nat.mod_lt _ hlt
          have hb0 : b ≠ 0 := by omega
          have q2 : (a : Int).tmod (b : Int) = ((a % b : Nat) : Int) := by rw [Int.tmod_eq_emod_of_nonneg (by omega)]; omega
          have HS := hide (show Nat.gcd b (a % b) = Nat.gcd x.natAbs y.natAbs by rw [← HG.out, Nat.gcd_comm a b, Nat.gcd_rec b a, Nat.gcd_comm])
          go_wp2
          refine wp_late (by kernel_rfl) (by kernel_rfl) (fun u => ⟨#[u 4, u 5, _, _, _, _, _, _, _, _, _, _, _, _, _, u 0, u 1, u 2, u 3, _], _⟩) (fun i => List.getD [_, _, _, _, _, _] i undef) [is ?v13_0, is ?v13_1, is ?v13_2, is ?v13_3, is ?v13_4, is ?v13_5] (fun w' => True) _ rfl ?hC13 ?hs13 ?hV13 ?fin13
          case hC13 => exact fun _ _ => trivial
          case hs13 =>
            repeat' (first
              | exact LSteps.nil
              | refine LSteps.cons ?_ ?_
              | ((first
                  | refine LStep.plain rfl ?_)
                 intro u w hW hC hd hu K hK
                 (try (have hl4 := hu 4 (by decide +kernel); simp at hl4; (try simp only [upd, Nat.reduceEqDiff, if_true, if_false] at hK); simp only [hl4] at hK ⊢))
                 (try (have hl5 := hu 5 (by decide +kernel); simp at hl5; (try simp only [upd, Nat.reduceEqDiff, if_true, if_false] at hK); simp only [hl5] at hK ⊢))
                 (try simp [vOf, is, Region.binds] at hd)
                 (try simp only [upd, Nat.reduceEqDiff, if_true, if_false] at hK)
                 (try simp only [hd] at hK)
                 go_simp
                 (first
                   | (refine hK _ _ ?_ ?_; (first | exact rfl); (repeat (first | exact Ext.refl _ | assumption | apply Ext.alloc | apply Ext.drew | apply Ext.drewN | (refine Ext.trans ?_ (by assumption))))))))
          case hV13 => (simp only [List.forall_mem_cons]; simp [stable_is])
          case fin13 =>
            intro u w2 hW2 hC2 hd
            simp only [AllV, is] at hd
            simp only [hd]
            clear hd
            clear q2
            go_wp2
            go_roundw
            case rel => exact ⟨b, a % b, by first | rfl | trivial, by first | rfl | trivial, by omega, by omega, HS.out, by (repeat (first | exact Ext.refl _ | assumption | apply Ext.alloc | apply Ext.drew | apply Ext.drewN | (refine Ext.trans ?_ (by assumption))))⟩
            case measure => simp [intOf]; omega
        · have e : b = 0 := by omega
          subst e
          go_wp2
          go_ret
          exact ⟨ret_int (by rw [← HG.out, Nat.gcd_zero_right]), hbl⟩
    · go_enter Try.func44, Try.ntmps44
      go_wp2
      clear zx zy
      go_loopw [0, 1] (fun p q wr => ∃ a b : Nat, p = .int .i64 a ∧ q = .int .i64 b ∧ a ≤ 1000 ∧ b ≤ 1000 ∧ Hid (Nat.gcd a b = Nat.gcd x.natAbs y.natAbs) ∧ Ext w wr) (fun _ q _ => (intOf q).toNat)
      case atStart => exact ⟨x.natAbs, y.natAbs, by first | rfl | (congr 1; omega), by first | rfl | (congr 1; omega), by omega, by omega, rfl, Ext.refl w⟩
      case round =>
        obtain ⟨a, b, rfl, rfl, ha, hb, HG, hbl⟩ := hrel
        by_cases hlt : 0 < b
        · have hmod : a % b < b := Nat.mod_lt _ hlt
          have hb0 : b ≠ 0 := by omega
          have q2 : (a : Int).tmod (b : Int) = ((a % b : Nat) : Int) := by rw [Int.tmod_eq_emod_of_nonneg (by omega)]; omega
          have HS := hide (show Nat.gcd b (a % b) = Nat.gcd x.natAbs y.natAbs by rw [← HG.out, Nat.gcd_comm a b, Nat.gcd_rec b a, Nat.gcd_comm])
          go_wp2
          refine wp_late (by kernel_rfl) (by kernel_rfl) (fun u => ⟨#[u 4, u 5, _, _, _, _, _, _, _, _, _, _, _, _, _, u 0, u 1, u 2, u 3, _], _⟩) (fun i => List.getD [_, _, _, _, _, _] i undef) [is ?v14_0, is ?v14_1, is ?v14_2, is ?v14_3, is ?v14_4, is ?v14_5] (fun w' => True) _ rfl ?hC14 ?hs14 ?hV14 ?fin14
          case hC14 => exact fun _ _ => trivial
          case hs14 =>
            repeat' (first
              | exact LSteps.nil
              | refine LSteps.cons ?_ ?_
              | ((first
                  | refine LStep.plain rfl ?_)
                 intro u w hW hC hd hu K hK
                 (try (have hl4 := hu 4 (by decide +kernel); simp at hl4; (try simp only [upd, Nat.reduceEqDiff, if_true, if_false] at hK); simp only [hl4] at hK ⊢))
                 (try (have hl5 := hu 5 (by decide +kernel); simp at hl5; (try simp only [upd, Nat.reduceEqDiff, if_true, if_false] at hK); simp only [hl5] at hK ⊢))
                 (try simp [vOf, is, Region.binds] at hd)
                 (try simp only [upd, Nat.reduceEqDiff, if_true, if_false] at hK)
                 (try simp only [hd] at hK)
                 go_simp
                 (first
                   | (refine hK _ _ ?_ ?_; (first | exact rfl); (repeat (first | exact Ext.refl _ | assumption | apply Ext.alloc | apply Ext.drew | apply Ext.drewN | (refine Ext.trans ?_ (by assumption))))))))
          case hV14 => (simp only [List.forall_mem_cons]; simp [stable_is])
          case fin14 =>
            intro u w2 hW2 hC2 hd
            simp only [AllV, is] at hd
            simp only [hd]
            clear hd
            clear q2
            go_wp2
            go_roundw
            case rel => exact ⟨b, a % b, by first | rfl | trivial, by first | rfl | trivial, by omega, by omega, HS.out, by (repeat (first | exact Ext.refl _ | assumption | apply Ext.alloc | apply Ext.drew | apply Ext.drewN | (refine Ext.trans ?_ (by assumption))))⟩
            case measure => simp [intOf]; omega
        · have e : b = 0 := by omega
          subst e
          go_wp2
          go_ret
          exact ⟨ret_int (by rw [← HG.out, Nat.gcd_zero_right]), hbl⟩


set_option maxRecDepth 100000 in
set_option maxHeartbeats 4000000 in
theorem LatticeSteps_any (a b c d : Int) (w : World) :
    Calls Try.prog 14 #[.agg #[.int .i64 a, .int .i64 b, .int .i64 c, .int .i64 d]] w fun e w' => e = .returned (.int .i64 (latV a b c d)) ∧ Ext w w' := by
  have HB : Hid (∀ w', Ext (w.alloc (.cells #[.int .i64 a, .int .i64 b, .int .i64 c, .int .i64 d] 29)) w' → w'.cell? ⟨w.heap.size, 0, none⟩ = some (.int .i64 a) ∧ w'.cell? ⟨w.heap.size, 1, none⟩ = some (.int .i64 b) ∧ w'.cell? ⟨w.heap.size, 2, none⟩ = some (.int .i64 c) ∧ w'.cell? ⟨w.heap.size, 3, none⟩ = some (.int .i64 d) ∧ w.heap.size < w'.heap.size) := fun w' hx => by
    and_intros <;> (first | (have hz := hx.size; simp at hz; omega) | ((first | rw [hx.cells _ _ (by first | (simp; done) | (simp; omega))] | rw [hx.frozens _ _ (by first | (simp; done) | (simp; omega))]); (first | (simp [go_sem]; done) | (simp [go_sem, World.cell?_alloc_past]; done) | (simp [go_sem, World.frozen?]; done))))
  unfold latV
  cases h : wok a b c d
  · go_enter Try.func14, Try.ntmps14
    go_wp2_with ((go_at_call 45; refine (WallOk_any _ _ _ _ _).mono ?_; rintro e w1 ⟨rfl, hb⟩; have hcc := HB.out w1 (by (repeat (first | exact Ext.refl _ | assumption | apply Ext.alloc | apply Ext.drew | apply Ext.drewN | (refine Ext.trans ?_ (by assumption)))))))
    go_ret
    exact ⟨rfl, by (repeat (first | exact Ext.refl _ | assumption | apply Ext.alloc | apply Ext.drew | apply Ext.drewN | (refine Ext.trans ?_ (by assumption))))⟩
  · obtain ⟨⟨⟨a1, a2⟩, b1, b2⟩, ⟨⟨c1, c2⟩, d1, d2⟩, hne⟩ := wok_bd h
    have HNE := hide hne
    clear hne
    have z1 := wrap_in (a - c) (by omega) (by omega)
    have z2 := wrap_in (c - a) (by omega) (by omega)
    have z3 := wrap_in (b - d) (by omega) (by omega)
    have z4 := wrap_in (d - b) (by omega) (by omega)
    have hA : (a - c).natAbs ≤ 80 := by omega
    have hB : (b - d).natAbs ≤ 80 := by omega
    by_cases hx0 : a - c < c - a
    · by_cases hy0 : b - d < d - b
      · go_enter Try.func14, Try.ntmps14
        go_wp2_with ((go_at_call 45; refine (WallOk_any _ _ _ _ _).mono ?_; rintro e w1 ⟨rfl, hb⟩; have hcc := HB.out w1 (by (repeat (first | exact Ext.refl _ | assumption | apply Ext.alloc | apply Ext.drew | apply Ext.drewN | (refine Ext.trans ?_ (by assumption)))))))
        obtain ⟨wq, rfl⟩ : ∃ wq : World, wq = w1 := ⟨_, rfl⟩
        refine wp_flow (by kernel_rfl) (by kernel_rfl) (fun u => ⟨#[_, _, _, u 30, u 31, _, _, _, u 0, u 1, u 2, u 3, u 4, u 5, u 6, u 7, u 8, u 9, u 10, u 11, u 12, u 13, u 14, u 15, u 16, u 17, u 18, u 19, u 20, u 21, u 22, u 23, u 24, u 25, u 26, u 27, u 28, u 29, _, _, _, _, _, _, _], _⟩) (fun i => List.getD [_, _, _, _, _, _, _, _, _, _, _, _, _, _, _, _, _, _, _, _, _, _, _, _, _, _, _, _, _, _, _, _] i undef) [is ?v15_0, is ?v15_1, is ?v15_2, is ?v15_3, is ?v15_4, is ?v15_5, is ?v15_6, is ?v15_7, is ?v15_8, is ?v15_9, is ?v15_10, is ?v15_11, is ?v15_12, is ?v15_13, is ?v15_14, is ?v15_15, is ?v15_16, is ?v15_17, is ?v15_18, is ?v15_19, is ?v15_20, is ?v15_21, is ?v15_22, is ?v15_23, is ?v15_24, is ?v15_25, is ?v15_26, is ?v15_27, is ?v15_28, is ?v15_29, is ?v15_30, is ?v15_31] (fun w' => w'.cell? ⟨w.heap.size, 0, none⟩ = some (.int .i64 a) ∧ w'.cell? ⟨w.heap.size, 1, none⟩ = some (.int .i64 b) ∧ w'.cell? ⟨w.heap.size, 2, none⟩ = some (.int .i64 c) ∧ w'.cell? ⟨w.heap.size, 3, none⟩ = some (.int .i64 d) ∧ w.heap.size < w'.heap.size) _ rfl ?hC15 ?hs15 ?hV15 ?fin15
        case hC15 => exact fun w' hx => (by have hq : Ext _ w' := hx; have hf0 := HB.out w' (by (repeat (first | exact Ext.refl _ | assumption | apply Ext.alloc | apply Ext.drew | apply Ext.drewN | (refine Ext.trans ?_ (by assumption))))); and_intros <;> first | exact hf0 | exact hf0.1 | exact hf0.2.1 | exact hf0.2.2.1 | exact hf0.2.2.2.1 | exact hf0.2.2.2.2.1 | exact hf0.2.2.2.2.2.1 | exact hf0.2.2.2.2.2.2.1 | exact hf0.2.2.2.2.2.2.2.1 | exact hf0.2.2.2.2.2.2.2.2.1 | exact hf0.2.2.2.2.2.2.2.2.2.1 | exact hf0.2.2.2.2.2.2.2.2.2.2.1 | exact hf0.2.2.2.2.2.2.2.2.2.2.2.1 | exact hf0.2.2.2.2.2.2.2.2.2.2.2.2.1 | exact hf0.2.2.2.2.2.2.2.2.2.2.2.2.2.1 | exact hf0.2 | exact hf0.2.2 | exact hf0.2.2.2 | exact hf0.2.2.2.2 | exact hf0.2.2.2.2.2 | exact hf0.2.2.2.2.2.2 | exact hf0.2.2.2.2.2.2.2 | exact hf0.2.2.2.2.2.2.2.2 | exact hf0.2.2.2.2.2.2.2.2.2 | exact hf0.2.2.2.2.2.2.2.2.2.2 | exact hf0.2.2.2.2.2.2.2.2.2.2.2 | exact hf0.2.2.2.2.2.2.2.2.2.2.2.2 | exact hf0.2.2.2.2.2.2.2.2.2.2.2.2.2)
        case hs15 =>
          repeat' (first
            | exact FSteps.nil
            | refine FSteps.cons ?_ ?_
            | (refine FStep.off_ _ _ _ rfl rfl ?_ (fun _ => rfl) ?_; (focus (intro u w hd; simp [vOf, is, Region.binds] at hd; simp [hd])); (intro w'; exact rfl); done)
            | ((first
                | refine FStep.plain rfl ?_
                | (refine FStep.on_ _ _ _ rfl rfl ?_ ?_; (focus (intro u w hd; simp [vOf, is, Region.binds] at hd; simp [hd]))))
               intro u w hW hC hd K hK
               (try simp [vOf, is, Region.binds] at hd)
               simp only [upd, Nat.reduceEqDiff, if_true, if_false] at hK
               (try simp only [hd] at hK)
               go_simp
               (first
                 | (refine hK _ _ ?_ ?_; (first | exact rfl); (repeat (first | exact Ext.refl _ | assumption | apply Ext.alloc | apply Ext.drew | apply Ext.drewN | (refine Ext.trans ?_ (by assumption))))))))
        case hV15 => (simp only [List.forall_mem_cons]; simp [stable_is])
        case fin15 =>
          intro u w2 hW2 hC2 hd
          simp only [AllV, is] at hd
          simp only [hd]
          clear hd
          clear z1 z2 z3 z4 hC2 hcc
          have hxw : Ext w w2 := by (repeat (first | exact Ext.refl _ | assumption | apply Ext.alloc | apply Ext.drew | apply Ext.drewN | (refine Ext.trans ?_ (by assumption))))
          obtain ⟨wo, rfl⟩ : ∃ wo : World, wo = w2 := ⟨_, rfl⟩
          clear hb hW2
          go_wp2
          go_loopw [3, 4] (fun u v wr => ∃ i j : Nat, u = .int .i64 i ∧ v = .int .i64 j ∧ i ≤ 1000 ∧ j ≤ 1000 ∧ Hid (Nat.gcd i j = Nat.gcd (a - c).natAbs (b - d).natAbs) ∧ Ext w wr) (fun _ v _ => (intOf v).toNat)
          case atStart => exact ⟨(a - c).natAbs, (b - d).natAbs, by first | rfl | (congr 1; omega), by first | rfl | (congr 1; omega), by omega, by omega, rfl, hxw⟩
          case round =>
            obtain ⟨i, j, rfl, rfl, hi, hj, HG, hbl⟩ := hrel
            by_cases hlt : 0 < j
            · have hmod : i % j < j := Nat.mod_lt _ hlt
              have hb1 : j ≠ 0 := by omega
              have hb0 : ((j : Int) != 0) = true := by simp; omega
              have q2 : (i : Int).tmod (j : Int) = ((i % j : Nat) : Int) := by rw [Int.tmod_eq_emod_of_nonneg (by omega)]; omega
              have HS := hide (show Nat.gcd j (i % j) = Nat.gcd (a - c).natAbs (b - d).natAbs by rw [← HG.out, Nat.gcd_comm i j, Nat.gcd_rec j i, Nat.gcd_comm])
              go_wp2
              refine wp_late (by kernel_rfl) (by kernel_rfl) (fun u => ⟨#[_, _, _, u 4, u 5, _, _, _, _, _, _, _, _, _, _, _, _, _, _, _, _, _, _, _, _, _, _, _, _, _, _, _, _, _, _, _, _, _, _, _, u 0, u 1, u 2, u 3, _], _⟩) (fun i => List.getD [_, _, _, _, _, _] i undef) [is ?v16_0, is ?v16_1, is ?v16_2, is ?v16_3, is ?v16_4, is ?v16_5] (fun w' => True) _ rfl ?hC16 ?hs16 ?hV16 ?fin16
              case hC16 => exact fun _ _ => trivial
              case hs16 =>
                repeat' (first
                  | exact LSteps.nil
                  | refine LSteps.cons ?_ ?_
                  | ((first
                      | refine LStep.plain rfl ?_)
                     intro u w hW hC hd hu K hK
                     (try (have hl4 := hu 4 (by decide +kernel); simp at hl4; (try simp only [upd, Nat.reduceEqDiff, if_true, if_false] at hK); simp only [hl4] at hK ⊢))
                     (try (have hl5 := hu 5 (by decide +kernel); simp at hl5; (try simp only [upd, Nat.reduceEqDiff, if_true, if_false] at hK); simp only [hl5] at hK ⊢))
                     (try simp [vOf, is, Region.binds] at hd)
                     (try simp only [upd, Nat.reduceEqDiff, if_true, if_false] at hK)
                     (try simp only [hd] at hK)
                     go_simp
                     (first
                       | (refine hK _ _ ?_ ?_; (first | exact rfl); (repeat (first | exact Ext.refl _ | assumption | apply Ext.alloc | apply Ext.drew | apply Ext.drewN | (refine Ext.trans ?_ (by assumption))))))))
              case hV16 => (simp only [List.forall_mem_cons]; simp [stable_is])
              case fin16 =>
                intro u w2 hW2 hC2 hd
                simp only [AllV, is] at hd
                simp only [hd]
                clear hd
                clear q2
                go_wp2
                go_roundw
                case rel => exact ⟨j, i % j, by first | rfl | trivial, by first | rfl | trivial, by omega, by omega, HS.out, by (repeat (first | exact Ext.refl _ | assumption | apply Ext.alloc | apply Ext.drew | apply Ext.drewN | (refine Ext.trans ?_ (by assumption))))⟩
                case measure => simp [intOf]; omega
            · have e : j = 0 := by omega
              subst e
              go_wp2
              go_ret
              exact ⟨ret_int (by rw [← HG.out, Nat.gcd_zero_right]), hbl⟩
      · go_enter Try.func14, Try.ntmps14
        go_wp2_with ((go_at_call 45; refine (WallOk_any _ _ _ _ _).mono ?_; rintro e w1 ⟨rfl, hb⟩; have hcc := HB.out w1 (by (repeat (first | exact Ext.refl _ | assumption | apply Ext.alloc | apply Ext.drew | apply Ext.drewN | (refine Ext.trans ?_ (by assumption)))))))
        obtain ⟨wq, rfl⟩ : ∃ wq : World, wq = w1 := ⟨_, rfl⟩
        refine wp_flow (by kernel_rfl) (by kernel_rfl) (fun u => ⟨#[_, _, _, u 30, u 31, _, _, _, u 0, u 1, u 2, u 3, u 4, u 5, u 6, u 7, u 8, u 9, u 10, u 11, u 12, u 13, u 14, u 15, u 16, u 17, u 18, u 19, u 20, u 21, u 22, u 23, u 24, u 25, u 26, u 27, u 28, u 29, _, _, _, _, _, _, _], _⟩) (fun i => List.getD [_, _, _, _, _, _, _, _, _, _, _, _, _, _, _, _, _, _, _, _, _, _, _, _, _, _, _, _, _, _, _, _] i undef) [is ?v17_0, is ?v17_1, is ?v17_2, is ?v17_3, is ?v17_4, is ?v17_5, is ?v17_6, is ?v17_7, is ?v17_8, is ?v17_9, is ?v17_10, is ?v17_11, is ?v17_12, is ?v17_13, is ?v17_14, is ?v17_15, is ?v17_16, is ?v17_17, is ?v17_18, is ?v17_19, is ?v17_20, is ?v17_21, is ?v17_22, is ?v17_23, is ?v17_24, is ?v17_25, is ?v17_26, is ?v17_27, is ?v17_28, is ?v17_29, is ?v17_30, is ?v17_31] (fun w' => w'.cell? ⟨w.heap.size, 0, none⟩ = some (.int .i64 a) ∧ w'.cell? ⟨w.heap.size, 1, none⟩ = some (.int .i64 b) ∧ w'.cell? ⟨w.heap.size, 2, none⟩ = some (.int .i64 c) ∧ w'.cell? ⟨w.heap.size, 3, none⟩ = some (.int .i64 d) ∧ w.heap.size < w'.heap.size) _ rfl ?hC17 ?hs17 ?hV17 ?fin17
        case hC17 => exact fun w' hx => (by have hq : Ext _ w' := hx; have hf0 := HB.out w' (by (repeat (first | exact Ext.refl _ | assumption | apply Ext.alloc | apply Ext.drew | apply Ext.drewN | (refine Ext.trans ?_ (by assumption))))); and_intros <;> first | exact hf0 | exact hf0.1 | exact hf0.2.1 | exact hf0.2.2.1 | exact hf0.2.2.2.1 | exact hf0.2.2.2.2.1 | exact hf0.2.2.2.2.2.1 | exact hf0.2.2.2.2.2.2.1 | exact hf0.2.2.2.2.2.2.2.1 | exact hf0.2.2.2.2.2.2.2.2.1 | exact hf0.2.2.2.2.2.2.2.2.2.1 | exact hf0.2.2.2.2.2.2.2.2.2.2.1 | exact hf0.2.2.2.2.2.2.2.2.2.2.2.1 | exact hf0.2.2.2.2.2.2.2.2.2.2.2.2.1 | exact hf0.2.2.2.2.2.2.2.2.2.2.2.2.2.1 | exact hf0.2 | exact hf0.2.2 | exact hf0.2.2.2 | exact hf0.2.2.2.2 | exact hf0.2.2.2.2.2 | exact hf0.2.2.2.2.2.2 | exact hf0.2.2.2.2.2.2.2 | exact hf0.2.2.2.2.2.2.2.2 | exact hf0.2.2.2.2.2.2.2.2.2 | exact hf0.2.2.2.2.2.2.2.2.2.2 | exact hf0.2.2.2.2.2.2.2.2.2.2.2 | exact hf0.2.2.2.2.2.2.2.2.2.2.2.2 | exact hf0.2.2.2.2.2.2.2.2.2.2.2.2.2)
        case hs17 =>
          repeat' (first
            | exact FSteps.nil
            | refine FSteps.cons ?_ ?_
            | (refine FStep.off_ _ _ _ rfl rfl ?_ (fun _ => rfl) ?_; (focus (intro u w hd; simp [vOf, is, Region.binds] at hd; simp [hd])); (intro w'; exact rfl); done)
            | ((first
                | refine FStep.plain rfl ?_
                | (refine FStep.on_ _ _ _ rfl rfl ?_ ?_; (focus (intro u w hd; simp [vOf, is, Region.binds] at hd; simp [hd]))))
               intro u w hW hC hd K hK
               (try simp [vOf, is, Region.binds] at hd)
               simp only [upd, Nat.reduceEqDiff, if_true, if_false] at hK
               (try simp only [hd] at hK)
               go_simp
               (first
                 | (refine hK _ _ ?_ ?_; (first | exact rfl); (repeat (first | exact Ext.refl _ | assumption | apply Ext.alloc | apply Ext.drew | apply Ext.drewN | (refine Ext.trans ?_ (by assumption))))))))
        case hV17 => (simp only [List.forall_mem_cons]; simp [stable_is])
        case fin17 =>
          intro u w2 hW2 hC2 hd
          simp only [AllV, is] at hd
          simp only [hd]
          clear hd
          clear z1 z2 z3 z4 hC2 hcc
          have hxw : Ext w w2 := by (repeat (first | exact Ext.refl _ | assumption | apply Ext.alloc | apply Ext.drew | apply Ext.drewN | (refine Ext.trans ?_ (by assumption))))
          obtain ⟨wo, rfl⟩ : ∃ wo : World, wo = w2 := ⟨_, rfl⟩
          clear hb hW2
          go_wp2
          go_loopw [3, 4] (fun u v wr => ∃ i j : Nat, u = .int .i64 i ∧ v = .int .i64 j ∧ i ≤ 1000 ∧ j ≤ 1000 ∧ Hid (Nat.gcd i j = Nat.gcd (a - c).natAbs (b - d).natAbs) ∧ Ext w wr) (fun _ v _ => (intOf v).toNat)
          case atStart => exact ⟨(a - c).natAbs, (b - d).natAbs, by first | rfl | (congr 1; omega), by first | rfl | (congr 1; omega), by omega, by omega, rfl, hxw⟩
          case round =>
            obtain ⟨i, j, rfl, rfl, hi, hj, HG, hbl⟩ := hrel
            by_cases hlt : 0 < j
            · have hmod : i % j < j := Nat.mod_lt _ hlt
              have hb1 : j ≠ 0 := by omega
              have hb0 : ((j : Int) != 0) = true := by simp; omega
              have q2 : (i : Int).tmod (j : Int) = ((i % j : Nat) : Int) := by rw [Int.tmod_eq_emod_of_nonneg (by omega)]; omega
              have HS := hide (show Nat.gcd j (i % j) = Nat.gcd (a - c).natAbs (b - d).natAbs by rw [← HG.out, Nat.gcd_comm i j, Nat.gcd_rec j i, Nat.gcd_comm])
              go_wp2
              refine wp_late (by kernel_rfl) (by kernel_rfl) (fun u => ⟨#[_, _, _, u 4, u 5, _, _, _, _, _, _, _, _, _, _, _, _, _, _, _, _, _, _, _, _, _, _, _, _, _, _, _, _, _, _, _, _, _, _, _, u 0, u 1, u 2, u 3, _], _⟩) (fun i => List.getD [_, _, _, _, _, _] i undef) [is ?v18_0, is ?v18_1, is ?v18_2, is ?v18_3, is ?v18_4, is ?v18_5] (fun w' => True) _ rfl ?hC18 ?hs18 ?hV18 ?fin18
              case hC18 => exact fun _ _ => trivial
              case hs18 =>
                repeat' (first
                  | exact LSteps.nil
                  | refine LSteps.cons ?_ ?_
                  | ((first
                      | refine LStep.plain rfl ?_)
                     intro u w hW hC hd hu K hK
                     (try (have hl4 := hu 4 (by decide +kernel); simp at hl4; (try simp only [upd, Nat.reduceEqDiff, if_true, if_false] at hK); simp only [hl4] at hK ⊢))
                     (try (have hl5 := hu 5 (by decide +kernel); simp at hl5; (try simp only [upd, Nat.reduceEqDiff, if_true, if_false] at hK); simp only [hl5] at hK ⊢))
                     (try simp [vOf, is, Region.binds] at hd)
                     (try simp only [upd, Nat.reduceEqDiff, if_true, if_false] at hK)
                     (try simp only [hd] at hK)
                     go_simp
                     (first
                       | (refine hK _ _ ?_ ?_; (first | exact rfl); (repeat (first | exact Ext.refl _ | assumption | apply Ext.alloc | apply Ext.drew | apply Ext.drewN | (refine Ext.trans ?_ (by assumption))))))))
              case hV18 => (simp only [List.forall_mem_cons]; simp [stable_is])
              case fin18 =>
                intro u w2 hW2 hC2 hd
                simp only [AllV, is] at hd
                simp only [hd]
                clear hd
                clear q2
                go_wp2
                go_roundw
                case rel => exact ⟨j, i % j, by first | rfl | trivial, by first | rfl | trivial, by omega, by omega, HS.out, by (repeat (first | exact Ext.refl _ | assumption | apply Ext.alloc | apply Ext.drew | apply Ext.drewN | (refine Ext.trans ?_ (by assumption))))⟩
                case measure => simp [intOf]; omega
            · have e : j = 0 := by omega
              subst e
              go_wp2
              go_ret
              exact ⟨ret_int (by rw [← HG.out, Nat.gcd_zero_right]), hbl⟩
    · by_cases hy0 : b - d < d - b
      · go_enter Try.func14, Try.ntmps14
        go_wp2_with ((go_at_call 45; refine (WallOk_any _ _ _ _ _).mono ?_; rintro e w1 ⟨rfl, hb⟩; have hcc := HB.out w1 (by (repeat (first | exact Ext.refl _ | assumption | apply Ext.alloc | apply Ext.drew | apply Ext.drewN | (refine Ext.trans ?_ (by assumption)))))))
        obtain ⟨wq, rfl⟩ : ∃ wq : World, wq = w1 := ⟨_, rfl⟩
        refine wp_flow (by kernel_rfl) (by kernel_rfl) (fun u => ⟨#[_, _, _, u 30, u 31, _, _, _, u 0, u 1, u 2, u 3, u 4, u 5, u 6, u 7, u 8, u 9, u 10, u 11, u 12, u 13, u 14, u 15, u 16, u 17, u 18, u 19, u 20, u 21, u 22, u 23, u 24, u 25, u 26, u 27, u 28, u 29, _, _, _, _, _, _, _], _⟩) (fun i => List.getD [_, _, _, _, _, _, _, _, _, _, _, _, _, _, _, _, _, _, _, _, _, _, _, _, _, _, _, _, _, _, _, _] i undef) [is ?v19_0, is ?v19_1, is ?v19_2, is ?v19_3, is ?v19_4, is ?v19_5, is ?v19_6, is ?v19_7, is ?v19_8, is ?v19_9, is ?v19_10, is ?v19_11, is ?v19_12, is ?v19_13, is ?v19_14, is ?v19_15, is ?v19_16, is ?v19_17, is ?v19_18, is ?v19_19, is ?v19_20, is ?v19_21, is ?v19_22, is ?v19_23, is ?v19_24, is ?v19_25, is ?v19_26, is ?v19_27, is ?v19_28, is ?v19_29, is ?v19_30, is ?v19_31] (fun w' => w'.cell? ⟨w.heap.size, 0, none⟩ = some (.int .i64 a) ∧ w'.cell? ⟨w.heap.size, 1, none⟩ = some (.int .i64 b) ∧ w'.cell? ⟨w.heap.size, 2, none⟩ = some (.int .i64 c) ∧ w'.cell? ⟨w.heap.size, 3, none⟩ = some (.int .i64 d) ∧ w.heap.size < w'.heap.size) _ rfl ?hC19 ?hs19 ?hV19 ?fin19
        case hC19 => exact fun w' hx => (by have hq : Ext _ w' := hx; have hf0 := HB.out w' (by (repeat (first | exact Ext.refl _ | assumption | apply Ext.alloc | apply Ext.drew | apply Ext.drewN | (refine Ext.trans ?_ (by assumption))))); and_intros <;> first | exact hf0 | exact hf0.1 | exact hf0.2.1 | exact hf0.2.2.1 | exact hf0.2.2.2.1 | exact hf0.2.2.2.2.1 | exact hf0.2.2.2.2.2.1 | exact hf0.2.2.2.2.2.2.1 | exact hf0.2.2.2.2.2.2.2.1 | exact hf0.2.2.2.2.2.2.2.2.1 | exact hf0.2.2.2.2.2.2.2.2.2.1 | exact hf0.2.2.2.2.2.2.2.2.2.2.1 | exact hf0.2.2.2.2.2.2.2.2.2.2.2.1 | exact hf0.2.2.2.2.2.2.2.2.2.2.2.2.1 | exact hf0.2.2.2.2.2.2.2.2.2.2.2.2.2.1 | exact hf0.2 | exact hf0.2.2 | exact hf0.2.2.2 | exact hf0.2.2.2.2 | exact hf0.2.2.2.2.2 | exact hf0.2.2.2.2.2.2 | exact hf0.2.2.2.2.2.2.2 | exact hf0.2.2.2.2.2.2.2.2 | exact hf0.2.2.2.2.2.2.2.2.2 | exact hf0.2.2.2.2.2.2.2.2.2.2 | exact hf0.2.2.2.2.2.2.2.2.2.2.2 | exact hf0.2.2.2.2.2.2.2.2.2.2.2.2 | exact hf0.2.2.2.2.2.2.2.2.2.2.2.2.2)
        case hs19 =>
          repeat' (first
            | exact FSteps.nil
            | refine FSteps.cons ?_ ?_
            | (refine FStep.off_ _ _ _ rfl rfl ?_ (fun _ => rfl) ?_; (focus (intro u w hd; simp [vOf, is, Region.binds] at hd; simp [hd])); (intro w'; exact rfl); done)
            | ((first
                | refine FStep.plain rfl ?_
                | (refine FStep.on_ _ _ _ rfl rfl ?_ ?_; (focus (intro u w hd; simp [vOf, is, Region.binds] at hd; simp [hd]))))
               intro u w hW hC hd K hK
               (try simp [vOf, is, Region.binds] at hd)
               simp only [upd, Nat.reduceEqDiff, if_true, if_false] at hK
               (try simp only [hd] at hK)
               go_simp
               (first
                 | (refine hK _ _ ?_ ?_; (first | exact rfl); (repeat (first | exact Ext.refl _ | assumption | apply Ext.alloc | apply Ext.drew | apply Ext.drewN | (refine Ext.trans ?_ (by assumption))))))))
        case hV19 => (simp only [List.forall_mem_cons]; simp [stable_is])
        case fin19 =>
          intro u w2 hW2 hC2 hd
          simp only [AllV, is] at hd
          simp only [hd]
          clear hd
          clear z1 z2 z3 z4 hC2 hcc
          have hxw : Ext w w2 := by (repeat (first | exact Ext.refl _ | assumption | apply Ext.alloc | apply Ext.drew | apply Ext.drewN | (refine Ext.trans ?_ (by assumption))))
          obtain ⟨wo, rfl⟩ : ∃ wo : World, wo = w2 := ⟨_, rfl⟩
          clear hb hW2
          go_wp2
          go_loopw [3, 4] (fun u v wr => ∃ i j : Nat, u = .int .i64 i ∧ v = .int .i64 j ∧ i ≤ 1000 ∧ j ≤ 1000 ∧ Hid (Nat.gcd i j = Nat.gcd (a - c).natAbs (b - d).natAbs) ∧ Ext w wr) (fun _ v _ => (intOf v).toNat)
          case atStart => exact ⟨(a - c).natAbs, (b - d).natAbs, by first | rfl | (congr 1; omega), by first | rfl | (congr 1; omega), by omega, by omega, rfl, hxw⟩
          case round =>
            obtain ⟨i, j, rfl, rfl, hi, hj, HG, hbl⟩ := hrel
            by_cases hlt : 0 < j
            · have hmod : i % j < j := Nat.mod_lt _ hlt
              have hb1 : j ≠ 0 := by omega
              have hb0 : ((j : Int) != 0) = true := by simp; omega
              have q2 : (i : Int).tmod (j : Int) = ((i % j : Nat) : Int) := by rw [Int.tmod_eq_emod_of_nonneg (by omega)]; omega
              have HS := hide (show Nat.gcd j (i % j) = Nat.gcd (a - c).natAbs (b - d).natAbs by rw [← HG.out, Nat.gcd_comm i j, Nat.gcd_rec j i, Nat.gcd_comm])
              go_wp2
              refine wp_late (by kernel_rfl) (by kernel_rfl) (fun u => ⟨#[_, _, _, u 4, u 5, _, _, _, _, _, _, _, _, _, _, _, _, _, _, _, _, _, _, _, _, _, _, _, _, _, _, _, _, _, _, _, _, _, _, _, u 0, u 1, u 2, u 3, _], _⟩) (fun i => List.getD [_, _, _, _, _, _] i undef) [is ?v20_0, is ?v20_1, is ?v20_2, is ?v20_3, is ?v20_4, is ?v20_5] (fun w' => True) _ rfl ?hC20 ?hs20 ?hV20 ?fin20
              case hC20 => exact fun _ _ => trivial
              case hs20 =>
                repeat' (first
                  | exact LSteps.nil
                  | refine LSteps.cons ?_ ?_
                  | ((first
                      | refine LStep.plain rfl ?_)
                     intro u w hW hC hd hu K hK
                     (try (have hl4 := hu 4 (by decide +kernel); simp at hl4; (try simp only [upd, Nat.reduceEqDiff, if_true, if_false] at hK); simp only [hl4] at hK ⊢))
                     (try (have hl5 := hu 5 (by decide +kernel); simp at hl5; (try simp only [upd, Nat.reduceEqDiff, if_true, if_false] at hK); simp only [hl5] at hK ⊢))
                     (try simp [vOf, is, Region.binds] at hd)
                     (try simp only [upd, Nat.reduceEqDiff, if_true, if_false] at hK)
                     (try simp only [hd] at hK)
                     go_simp
                     (first
                       | (refine hK _ _ ?_ ?_; (first | exact rfl); (repeat (first | exact Ext.refl _ | assumption | apply Ext.alloc | apply Ext.drew | apply Ext.drewN | (refine Ext.trans ?_ (by assumption))))))))
              case hV20 => (simp only [List.forall_mem_cons]; simp [stable_is])
              case fin20 =>
                intro u w2 hW2 hC2 hd
                simp only [AllV, is] at hd
                simp only [hd]
                clear hd
                clear q2
                go_wp2
                go_roundw
                case rel => exact ⟨j, i % j, by first | rfl | trivial, by first | rfl | trivial, by omega, by omega, HS.out, by (repeat (first | exact Ext.refl _ | assumption | apply Ext.alloc | apply Ext.drew | apply Ext.drewN | (refine Ext.trans ?_ (by assumption))))⟩
                case measure => simp [intOf]; omega
            · have e : j = 0 := by omega
              subst e
              go_wp2
              go_ret
              exact ⟨ret_int (by rw [← HG.out, Nat.gcd_zero_right]), hbl⟩
      · go_enter Try.func14, Try.ntmps14
        go_wp2_with ((go_at_call 45; refine (WallOk_any _ _ _ _ _).mono ?_; rintro e w1 ⟨rfl, hb⟩; have hcc := HB.out w1 (by (repeat (first | exact Ext.refl _ | assumption | apply Ext.alloc | apply Ext.drew | apply Ext.drewN | (refine Ext.trans ?_ (by assumption)))))))
        obtain ⟨wq, rfl⟩ : ∃ wq : World, wq = w1 := ⟨_, rfl⟩
        refine wp_flow (by kernel_rfl) (by kernel_rfl) (fun u => ⟨#[_, _, _, u 30, u 31, _, _, _, u 0, u 1, u 2, u 3, u 4, u 5, u 6, u 7, u 8, u 9, u 10, u 11, u 12, u 13, u 14, u 15, u 16, u 17, u 18, u 19, u 20, u 21, u 22, u 23, u 24, u 25, u 26, u 27, u 28, u 29, _, _, _, _, _, _, _], _⟩) (fun i => List.getD [_, _, _, _, _, _, _, _, _, _, _, _, _, _, _, _, _, _, _, _, _, _, _, _, _, _, _, _, _, _, _, _] i undef) [is ?v21_0, is ?v21_1, is ?v21_2, is ?v21_3, is ?v21_4, is ?v21_5, is ?v21_6, is ?v21_7, is ?v21_8, is ?v21_9, is ?v21_10, is ?v21_11, is ?v21_12, is ?v21_13, is ?v21_14, is ?v21_15, is ?v21_16, is ?v21_17, is ?v21_18, is ?v21_19, is ?v21_20, is ?v21_21, is ?v21_22, is ?v21_23, is ?v21_24, is ?v21_25, is ?v21_26, is ?v21_27, is ?v21_28, is ?v21_29, is ?v21_30, is ?v21_31] (fun w' => w'.cell? ⟨w.heap.size, 0, none⟩ = some (.int .i64 a) ∧ w'.cell? ⟨w.heap.size, 1, none⟩ = some (.int .i64 b) ∧ w'.cell? ⟨w.heap.size, 2, none⟩ = some (.int .i64 c) ∧ w'.cell? ⟨w.heap.size, 3, none⟩ = some (.int .i64 d) ∧ w.heap.size < w'.heap.size) _ rfl ?hC21 ?hs21 ?hV21 ?fin21
        case hC21 => exact fun w' hx => (by have hq : Ext _ w' := hx; have hf0 := HB.out w' (by (repeat (first | exact Ext.refl _ | assumption | apply Ext.alloc | apply Ext.drew | apply Ext.drewN | (refine Ext.trans ?_ (by assumption))))); and_intros <;> first | exact hf0 | exact hf0.1 | exact hf0.2.1 | exact hf0.2.2.1 | exact hf0.2.2.2.1 | exact hf0.2.2.2.2.1 | exact hf0.2.2.2.2.2.1 | exact hf0.2.2.2.2.2.2.1 | exact hf0.2.2.2.2.2.2.2.1 | exact hf0.2.2.2.2.2.2.2.2.1 | exact hf0.2.2.2.2.2.2.2.2.2.1 | exact hf0.2.2.2.2.2.2.2.2.2.2.1 | exact hf0.2.2.2.2.2.2.2.2.2.2.2.1 | exact hf0.2.2.2.2.2.2.2.2.2.2.2.2.1 | exact hf0.2.2.2.2.2.2.2.2.2.2.2.2.2.1 | exact hf0.2 | exact hf0.2.2 | exact hf0.2.2.2 | exact hf0.2.2.2.2 | exact hf0.2.2.2.2.2 | exact hf0.2.2.2.2.2.2 | exact hf0.2.2.2.2.2.2.2 | exact hf0.2.2.2.2.2.2.2.2 | exact hf0.2.2.2.2.2.2.2.2.2 | exact hf0.2.2.2.2.2.2.2.2.2.2 | exact hf0.2.2.2.2.2.2.2.2.2.2.2 | exact hf0.2.2.2.2.2.2.2.2.2.2.2.2 | exact hf0.2.2.2.2.2.2.2.2.2.2.2.2.2)
        case hs21 =>
          repeat' (first
            | exact FSteps.nil
            | refine FSteps.cons ?_ ?_
            | (refine FStep.off_ _ _ _ rfl rfl ?_ (fun _ => rfl) ?_; (focus (intro u w hd; simp [vOf, is, Region.binds] at hd; simp [hd])); (intro w'; exact rfl); done)
            | ((first
                | refine FStep.plain rfl ?_
                | (refine FStep.on_ _ _ _ rfl rfl ?_ ?_; (focus (intro u w hd; simp [vOf, is, Region.binds] at hd; simp [hd]))))
               intro u w hW hC hd K hK
               (try simp [vOf, is, Region.binds] at hd)
               simp only [upd, Nat.reduceEqDiff, if_true, if_false] at hK
               (try simp only [hd] at hK)
               go_simp
               (first
                 | (refine hK _ _ ?_ ?_; (first | exact rfl); (repeat (first | exact Ext.refl _ | assumption | apply Ext.alloc | apply Ext.drew | apply Ext.drewN | (refine Ext.trans ?_ (by assumption))))))))
        case hV21 => (simp only [List.forall_mem_cons]; simp [stable_is])
        case fin21 =>
          intro u w2 hW2 hC2 hd
          simp only [AllV, is] at hd
          simp only [hd]
          clear hd
          clear z1 z2 z3 z4 hC2 hcc
          have hxw : Ext w w2 := by (repeat (first | exact Ext.refl _ | assumption | apply Ext.alloc | apply Ext.drew | apply Ext.drewN | (refine Ext.trans ?_ (by assumption))))
          obtain ⟨wo, rfl⟩ : ∃ wo : World, wo = w2 := ⟨_, rfl⟩
          clear hb hW2
          go_wp2
          go_loopw [3, 4] (fun u v wr => ∃ i j : Nat, u = .int .i64 i ∧ v = .int .i64 j ∧ i ≤ 1000 ∧ j ≤ 1000 ∧ Hid (Nat.gcd i j = Nat.gcd (a - c).natAbs (b - d).natAbs) ∧ Ext w wr) (fun _ v _ => (intOf v).toNat)
          case atStart => exact ⟨(a - c).natAbs, (b - d).natAbs, by first | rfl | (congr 1; omega), by first | rfl | (congr 1; omega), by omega, by omega, rfl, hxw⟩
          case round =>
            obtain ⟨i, j, rfl, rfl, hi, hj, HG, hbl⟩ := hrel
            by_cases hlt : 0 < j
            · have hmod : i % j < j := Nat.mod_lt _ hlt
              have hb1 : j ≠ 0 := by omega
              have hb0 : ((j : Int) != 0) = true := by simp; omega
              have q2 : (i : Int).tmod (j : Int) = ((i % j : Nat) : Int) := by rw [Int.tmod_eq_emod_of_nonneg (by omega)]; omega
              have HS := hide (show Nat.gcd j (i % j) = Nat.gcd (a - c).natAbs (b - d).natAbs by rw [← HG.out, Nat.gcd_comm i j, Nat.gcd_rec j i, Nat.gcd_comm])
              go_wp2
              refine wp_late (by kernel_rfl) (by kernel_rfl) (fun u => ⟨#[_, _, _, u 4, u 5, _, _, _, _, _, _, _, _, _, _, _, _, _, _, _, _, _, _, _, _, _, _, _, _, _, _, _, _, _, _, _, _, _, _, _, u 0, u 1, u 2, u 3, _], _⟩) (fun i => List.getD [_, _, _, _, _, _] i undef) [is ?v22_0, is ?v22_1, is ?v22_2, is ?v22_3, is ?v22_4, is ?v22_5] (fun w' => True) _ rfl ?hC22 ?hs22 ?hV22 ?fin22
              case hC22 => exact fun _ _ => trivial
              case hs22 =>
                repeat' (first
                  | exact LSteps.nil
                  | refine LSteps.cons ?_ ?_
                  | ((first
                      | refine LStep.plain rfl ?_)
                     intro u w hW hC hd hu K hK
                     (try (have hl4 := hu 4 (by decide +kernel); simp at hl4; (try simp only [upd, Nat.reduceEqDiff, if_true, if_false] at hK); simp only [hl4] at hK ⊢))
                     (try (have hl5 := hu 5 (by decide +kernel); simp at hl5; (try simp only [upd, Nat.reduceEqDiff, if_true, if_false] at hK); simp only [hl5] at hK ⊢))
                     (try simp [vOf, is, Region.binds] at hd)
                     (try simp only [upd, Nat.reduceEqDiff, if_true, if_false] at hK)
                     (try simp only [hd] at hK)
                     go_simp
                     (first
                       | (refine hK _ _ ?_ ?_; (first | exact rfl); (repeat (first | exact Ext.refl _ | assumption | apply Ext.alloc | apply Ext.drew | apply Ext.drewN | (refine Ext.trans ?_ (by assumption))))))))
              case hV22 => (simp only [List.forall_mem_cons]; simp [stable_is])
              case fin22 =>
                intro u w2 hW2 hC2 hd
                simp only [AllV, is] at hd
                simp only [hd]
                clear hd
                clear q2
                go_wp2
                go_roundw
                case rel => exact ⟨j, i % j, by first | rfl | trivial, by first | rfl | trivial, by omega, by omega, HS.out, by (repeat (first | exact Ext.refl _ | assumption | apply Ext.alloc | apply Ext.drew | apply Ext.drewN | (refine Ext.trans ?_ (by assumption))))⟩
                case measure => simp [intOf]; omega
            · have e : j = 0 := by omega
              subst e
              go_wp2
              go_ret
              exact ⟨ret_int (by rw [← HG.out, Nat.gcd_zero_right]), hbl⟩

set_option maxHeartbeats 800000 in
theorem sLatticeSteps_any (a b c d : Int) (w : World) :
    Calls Try.prog 12 #[.agg #[.int .i64 a, .int .i64 b, .int .i64 c, .int .i64 d]] w fun e w' => e = .returned (.int .i64 (latV a b c d)) ∧ Ext w w' := by
  have HB : Hid (∀ w', Ext (w.alloc (.cells #[.int .i64 a, .int .i64 b, .int .i64 c, .int .i64 d] 29)) w' → w'.cell? ⟨w.heap.size, 0, none⟩ = some (.int .i64 a) ∧ w'.cell? ⟨w.heap.size, 1, none⟩ = some (.int .i64 b) ∧ w'.cell? ⟨w.heap.size, 2, none⟩ = some (.int .i64 c) ∧ w'.cell? ⟨w.heap.size, 3, none⟩ = some (.int .i64 d) ∧ w.heap.size < w'.heap.size) := fun w' hx => by
    and_intros <;> (first | (have hz := hx.size; simp at hz; omega) | ((first | rw [hx.cells _ _ (by first | (simp; done) | (simp; omega))] | rw [hx.frozens _ _ (by first | (simp; done) | (simp; omega))]); (first | (simp [go_sem]; done) | (simp [go_sem, World.cell?_alloc_past]; done) | (simp [go_sem, World.frozen?]; done))))
  unfold latV
  cases h : wok a b c d
  · go_enter Try.func12, Try.ntmps12
    go_wp2_with ((go_at_call 43; refine (sWallOk_any _ _ _ _ _).mono ?_; rintro e w1 ⟨rfl, hb⟩; have hcc := HB.out w1 (by (repeat (first | exact Ext.refl _ | assumption | apply Ext.alloc | apply Ext.drew | apply Ext.drewN | (refine Ext.trans ?_ (by assumption)))))))
    go_ret
    exact ⟨rfl, by (repeat (first | exact Ext.refl _ | assumption | apply Ext.alloc | apply Ext.drew | apply Ext.drewN | (refine Ext.trans ?_ (by assumption))))⟩
  · obtain ⟨⟨⟨a1, a2⟩, b1, b2⟩, ⟨⟨c1, c2⟩, d1, d2⟩, hne⟩ := wok_bd h
    have HNE := hide hne
    clear hne
    have e1 : (c - a).natAbs = (a - c).natAbs := by omega
    have e2 : (d - b).natAbs = (b - d).natAbs := by omega
    have HE := hide (show Nat.gcd (c - a).natAbs (d - b).natAbs = Nat.gcd (a - c).natAbs (b - d).natAbs by rw [e1, e2])
    clear e1 e2
    go_enter Try.func12, Try.ntmps12
    go_wp2_with (first | (go_at_call 43; refine (sWallOk_any _ _ _ _ _).mono ?_; rintro e w1 ⟨rfl, hb⟩; have hcc := HB.out w1 (by (repeat (first | exact Ext.refl _ | assumption | apply Ext.alloc | apply Ext.drew | apply Ext.drewN | (refine Ext.trans ?_ (by assumption)))))) | (go_at_call 44; refine (l03Gcd_any _ _ _ (by omega) (by omega)).mono ?_; rintro e w2 ⟨rfl, hb2⟩))
    go_ret
    exact ⟨ret_int (by rw [HE.out]), by (repeat (first | exact Ext.refl _ | assumption | apply Ext.alloc | apply Ext.drew | apply Ext.drewN | (refine Ext.trans ?_ (by assumption))))⟩

end Go.Proofs.Ytlghppkifccakaa
