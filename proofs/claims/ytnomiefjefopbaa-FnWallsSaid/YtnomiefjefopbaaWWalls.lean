/- The walk of FnWalls. -/
import Derived.Test.YtnomiefjefopbaaDrawX
import Derived.Test.YtnomiefjefopbaaFastF
import Derived.Test.YtnomiefjefopbaaLat
import Derived.Test.YtnomiefjefopbaaRoom
namespace Go.Proofs.Ytnomiefjefopbaa
open Go.RowKit

theorem DoCross_at (ax ay bx by_ cx cy dx dy : Int) (v : Bool) (w : World) (h : doCrossV ax ay bx by_ cx cy dx dy = v) : Calls Try.prog 13 #[.agg #[.int .i64 ax, .int .i64 ay, .int .i64 bx, .int .i64 by_], .agg #[.int .i64 cx, .int .i64 cy, .int .i64 dx, .int .i64 dy]] w fun e w' => e = .returned (.bool v) ∧ Ext w w' := by
  subst h; exact DoCross_any _ _ _ _ _ _ _ _ w
theorem DoMeet_at (ax ay bx by_ cx cy dx dy : Int) (v : Bool) (w : World) (h : meetV ax ay bx by_ cx cy dx dy = v) : Calls Try.prog 14 #[.agg #[.int .i64 ax, .int .i64 ay, .int .i64 bx, .int .i64 by_], .agg #[.int .i64 cx, .int .i64 cy, .int .i64 dx, .int .i64 dy]] w fun e w' => e = .returned (.bool v) ∧ Ext w w' := by
  subst h; exact DoMeet_any _ _ _ _ _ _ _ _ w
theorem LengthSquare_at (a b c d v : Int) (w : World) (h : LenV a b c d = v) : Calls Try.prog 15 #[.agg #[.int .i64 a, .int .i64 b, .int .i64 c, .int .i64 d]] w fun e w' => e = .returned (.int .i64 v) ∧ Ext w w' := by
  subst h; exact LengthSquare_any _ _ _ _ w
theorem LatticeSteps_at (a b c d v : Int) (w : World) (h : latV a b c d = v) : Calls Try.prog 12 #[.agg #[.int .i64 a, .int .i64 b, .int .i64 c, .int .i64 d]] w fun e w' => e = .returned (.int .i64 v) ∧ Ext w w' := by
  subst h; exact LatticeSteps_any _ _ _ _ w
theorem IsOnWall_at (a b c d px py : Int) (v : Bool) (w : World) (h : onWallV a b c d px py = v) : Calls Try.prog 16 #[.agg #[.int .i64 a, .int .i64 b, .int .i64 c, .int .i64 d], .agg #[.int .i64 px, .int .i64 py]] w fun e w' => e = .returned (.bool v) ∧ Ext w w' := by
  subst h; exact IsOnWall_any _ _ _ _ _ _ w

theorem wallD_ok {a b c d : Int} (h : WallD a b c d) : wok a b c d = true := by
  obtain ⟨h1, h2, h3⟩ := h
  simp [wok, pok2, pok, inB, neB, h3]
  omega
theorem wallD_swap {a b c d : Int} (h : WallD a b c d) : WallD c d a b := by
  obtain ⟨h1, h2, h3⟩ := h
  refine ⟨h2, h1, ?_⟩
  simp only [Bool.and_eq_false_iff, beq_eq_false_iff_ne] at h3 ⊢
  omega
theorem sq_natAbs (x : Int) : x * x = ((x.natAbs * x.natAbs : Nat) : Int) := by
  rw [← Int.natAbs_mul_self]
theorem gcd_arith (a b : Int) (ha : -9 ≤ a ∧ a ≤ 9) (hb : -9 ≤ b ∧ b ≤ 9) (hne : a ≠ 0 ∨ b ≠ 0) : 1 ≤ (Nat.gcd a.natAbs b.natAbs : Int) ∧ (Nat.gcd a.natAbs b.natAbs : Int) ≤ 80 ∧ 0 < (Nat.gcd a.natAbs b.natAbs : Int) * (Nat.gcd a.natAbs b.natAbs : Int) ∧ (a * a + b * b) % ((Nat.gcd a.natAbs b.natAbs : Int) * (Nat.gcd a.natAbs b.natAbs : Int)) = 0 := by
  have h1 : 0 < Nat.gcd a.natAbs b.natAbs := by
    rcases hne with h | h
    · exact Nat.gcd_pos_of_pos_left _ (by omega)
    · exact Nat.gcd_pos_of_pos_right _ (by omega)
  have h2 : Nat.gcd a.natAbs b.natAbs ≤ 9 := by
    rcases hne with h | h
    · exact Nat.le_trans (Nat.gcd_le_left _ (by omega)) (by omega)
    · exact Nat.le_trans (Nat.gcd_le_right _ (by omega)) (by omega)
  obtain ⟨k, hk⟩ := Nat.gcd_dvd_left a.natAbs b.natAbs
  obtain ⟨l, hl⟩ := Nat.gcd_dvd_right a.natAbs b.natAbs
  generalize Nat.gcd a.natAbs b.natAbs = g at *
  refine ⟨by omega, by omega, ?_, ?_⟩
  · exact Int.mul_pos (by omega) (by omega)
  · rw [sq_natAbs a, sq_natAbs b, hk, hl]
    have e : ((g * k * (g * k) : Nat) : Int) + ((g * l * (g * l) : Nat) : Int) = ((g : Int) * (g : Int)) * (((k * k + l * l : Nat)) : Int) := by
      push_cast
      grind
    rw [e]
    exact Int.mul_emod_right _ _

theorem sgn_neg (x : Int) : sgn (-x) = - sgn x := by
  unfold sgn
  split <;> split <;> (try split) <;> omega
theorem side_swap {ax ay bx by_ cx cy dx dy : Int} (ha : within 1000000 ax ay) (hb : within 1000000 bx by_) (hc : within 1000000 cx cy) (hd : within 1000000 dx dy) : crossB ax ay bx by_ dx dy cx cy = crossB ax ay bx by_ cx cy dx dy := by
  unfold crossB sideB
  rw [turnW_eq hd hc ha, turnW_eq hd hc hb, turnW_eq hc hd ha, turnW_eq hc hd hb]
  have e1 : turnZ dx dy cx cy ax ay = - turnZ cx cy dx dy ax ay := by unfold turnZ; grind
  have e2 : turnZ dx dy cx cy bx by_ = - turnZ cx cy dx dy bx by_ := by unfold turnZ; grind
  rw [e1, e2, sgn_neg, sgn_neg, Int.neg_mul_neg, Int.mul_comm (sgn (turnW ax ay bx by_ dx dy))]

/-- what the statement asks of two walls -/
theorem walls_plain {x1 y1 x2 y2 x3 y3 x4 y4 : Int} (h1 : WallD x1 y1 x2 y2) (h2 : WallD x3 y3 x4 y4) :
    ∃ (c m : Bool) (n q : Int), doCrossV x1 y1 x2 y2 x3 y3 x4 y4 = c ∧ doCrossV x3 y3 x4 y4 x1 y1 x2 y2 = c ∧ meetV x1 y1 x2 y2 x3 y3 x4 y4 = m ∧ meetV x3 y3 x4 y4 x1 y1 x2 y2 = m ∧ latV x3 y3 x4 y4 = n ∧ LenV x3 y3 x4 y4 = q ∧ latV x4 y4 x3 y3 = n ∧ doCrossV x1 y1 x2 y2 x4 y4 x3 y3 = c ∧ onWallV x3 y3 x4 y4 x3 y3 = true ∧
      (1 ≤ n ∧ n ≤ 80) ∧ (0 ≤ q ∧ q ≤ 1000) ∧ 0 < n * n ∧ q % (n * n) = 0 ∧ (c = true → m = true) ∧ ((x2 == x3 && y2 == y3) = true → m = true ∧ c = false) := by
  have o1 := wallD_ok h1
  have o2 := wallD_ok h2
  have o3 := wallD_ok (wallD_swap h2)
  have w1 : within 1000000 x1 y1 := by obtain ⟨_, _, _⟩ := h1; unfold within; omega
  have w2 : within 1000000 x2 y2 := by obtain ⟨_, _, _⟩ := h1; unfold within; omega
  have w3 : within 1000000 x3 y3 := by obtain ⟨_, _, _⟩ := h2; unfold within; omega
  have w4 : within 1000000 x4 y4 := by obtain ⟨_, _, _⟩ := h2; unfold within; omega
  have hn : x3 - x4 ≠ 0 ∨ y3 - y4 ≠ 0 := by
    obtain ⟨_, _, h⟩ := h2
    simp only [Bool.and_eq_false_iff, beq_eq_false_iff_ne] at h
    omega
  have hg := gcd_arith (x3 - x4) (y3 - y4) (by obtain ⟨_, _, _⟩ := h2; omega) (by obtain ⟨_, _, _⟩ := h2; omega) hn
  have hon : ∀ {p q a b : Int}, within 1000000 p q → within 1000000 a b → onW p q p q a b = true ∧ onW p q a b p q = true := fun {p q a b} hw hv => by
    have e1 : turnZ p q a b p q = 0 := by unfold turnZ; grind
    have e2 : turnZ a b p q p q = 0 := by unfold turnZ; grind
    unfold onW
    rw [turnW_eq hw hv hw, turnW_eq hv hw hw, e1, e2]
    simp [inB]
    omega
  have hq : LenV x3 y3 x4 y4 = (x3 - x4) * (x3 - x4) + (y3 - y4) * (y3 - y4) := by
    unfold LenV
    rw [if_pos o2, sqW_eq w3 w4]
    rfl
  have hb1 : (x3 - x4) * (x3 - x4) ≤ 81 := by
    have := Int.mul_nonneg (show 0 ≤ 9 - (x3 - x4) by obtain ⟨_, _, _⟩ := h2; omega) (show 0 ≤ 9 + (x3 - x4) by obtain ⟨_, _, _⟩ := h2; omega)
    have e : (9 - (x3 - x4)) * (9 + (x3 - x4)) = 81 - (x3 - x4) * (x3 - x4) := by grind
    omega
  have hb2 : (y3 - y4) * (y3 - y4) ≤ 81 := by
    have := Int.mul_nonneg (show 0 ≤ 9 - (y3 - y4) by obtain ⟨_, _, _⟩ := h2; omega) (show 0 ≤ 9 + (y3 - y4) by obtain ⟨_, _, _⟩ := h2; omega)
    have e : (9 - (y3 - y4)) * (9 + (y3 - y4)) = 81 - (y3 - y4) * (y3 - y4) := by grind
    omega
  have hb3 : 0 ≤ (x3 - x4) * (x3 - x4) := by rw [sq_natAbs]; omega
  have hb4 : 0 ≤ (y3 - y4) * (y3 - y4) := by rw [sq_natAbs]; omega
  refine ⟨_, _, _, _, rfl, ?_, rfl, meet_comm _ _ _ _ _ _ _ _, rfl, rfl, ?_, ?_, ?_, ?_, ?_, ?_, ?_, ?_, ?_⟩
  · unfold doCrossV
    rw [o1, o2, side_comm]
  · unfold latV
    rw [if_pos o2, if_pos o3, show x4 - x3 = -(x3 - x4) by omega, show y4 - y3 = -(y3 - y4) by omega, Int.natAbs_neg, Int.natAbs_neg]
  · unfold doCrossV
    rw [o1, o2, o3, side_swap w1 w2 w3 w4]
  · unfold onWallV BetV
    have e : pok3 x3 y3 x3 y3 x4 y4 = true := by
      obtain ⟨_, _, _⟩ := h2
      simp [pok3, pok, inB]
      omega
    rw [o2, e, (hon w3 w4).1]
    rfl
  · unfold latV
    rw [if_pos o2]
    exact ⟨hg.1, hg.2.1⟩
  · rw [hq]
    omega
  · unfold latV
    rw [if_pos o2]
    exact hg.2.2.1
  · unfold latV
    rw [hq, if_pos o2]
    exact hg.2.2.2
  · intro hc
    unfold doCrossV at hc
    unfold meetV
    rw [o1, o2] at hc ⊢
    simp only [Bool.true_and] at hc ⊢
    rw [hc]
    rfl
  · intro he
    simp only [Bool.and_eq_true, beq_iff_eq] at he
    obtain ⟨rfl, rfl⟩ := he
    constructor
    · unfold meetV
      rw [o1, o2, (hon w2 w4).1]
      simp
    · unfold doCrossV crossB sideB
      have e1 : turnW x1 y1 x2 y2 x2 y2 = 0 := by rw [turnW_eq w1 w2 w2]; unfold turnZ; grind
      rw [e1]
      simp [sgn]


set_option maxRecDepth 100000 in
set_option maxHeartbeats 3200000 in
theorem walls_walk (B : Option Addr) (n c : Nat) (w : World) (hb : RB w B n) :
    Calls Try.prog 4 #[.slice B n c] w fun e w' => e = .returned (.bool true) ∧ Below w.heap.size w w' := by
  by_cases hbig : (1048576 : Int) < (n : Int)
  · go_enter Try.func4, Try.ntmps4
    go_wp2_with (go_at_call 5; refine (big_any _ _ _ _).mono ?_; rintro e w1 ⟨rfl, rfl⟩)
    go_ret
    exact ⟨rfl, Below.refl _ _⟩
  · have hn : n ≤ 1048576 := by omega
    go_enter Try.func4, Try.ntmps4
    go_wp2_with (go_at_call 5; refine (big_any _ _ _ _).mono ?_; rintro e w1 ⟨rfl, rfl⟩)
    refine (DrawWalls_any B n c w hb hn).mono ?_
    rintro e w1 ⟨x1, y1, x2, y2, x3, y3, x4, y4, h1, h2, rfl, hx1⟩
    obtain ⟨cr, me, n, q, f1, f2, f3, f4, f9, f5, f6, f7, f8, b1, b2, hnn, hqm, hcm, heq⟩ := walls_plain h1 h2
    clear h1 h2
    obtain ⟨nn, hN⟩ : ∃ nn, n * n = nn := ⟨_, rfl⟩
    have hnn2 : nn ≤ 6400 := by
      have := Int.mul_nonneg (show 0 ≤ 80 - n by omega) (show 0 ≤ 80 + n by omega)
      have e : (80 - n) * (80 + n) = 6400 - n * n := by grind
      omega
    rw [hN] at hnn hqm
    have htm : q.tmod nn = 0 := by rw [Int.tmod_eq_emod_of_nonneg (by omega)]; exact hqm
    have hn0 : (nn == 0) = false := by simp only [beq_eq_false_iff_ne]; omega
    clear hqm
    have F1 := hide f1
    have F2 := hide f2
    have F3 := hide f3
    have F4 := hide f4
    have F5 := hide f5
    have F6 := hide f6
    have F7 := hide f7
    have F8 := hide f8
    have F9 := hide f9
    clear f1 f2 f3 f4 f5 f6 f7 f8 f9
    have HB : Hid (∀ w', Ext ((w1.alloc (.cells #[.int .i64 x1, .int .i64 y1, .int .i64 x2, .int .i64 y2] 32)).alloc (.cells #[.int .i64 x3, .int .i64 y3, .int .i64 x4, .int .i64 y4] 32)) w' → w'.cell? ⟨w1.heap.size, 0, none⟩ = some (.int .i64 x1) ∧ w'.cell? ⟨w1.heap.size, 1, none⟩ = some (.int .i64 y1) ∧ w'.cell? ⟨w1.heap.size, 2, none⟩ = some (.int .i64 x2) ∧ w'.cell? ⟨w1.heap.size, 3, none⟩ = some (.int .i64 y2) ∧ w1.heap.size < w'.heap.size ∧ w'.cell? ⟨w1.heap.size + 1, 0, none⟩ = some (.int .i64 x3) ∧ w'.cell? ⟨w1.heap.size + 1, 1, none⟩ = some (.int .i64 y3) ∧ w'.cell? ⟨w1.heap.size + 1, 2, none⟩ = some (.int .i64 x4) ∧ w'.cell? ⟨w1.heap.size + 1, 3, none⟩ = some (.int .i64 y4) ∧ w1.heap.size + 1 < w'.heap.size) := fun w' hx => by
      and_intros <;> (first | (have hz := hx.size; simp at hz; omega) | ((first | rw [hx.cells _ _ (by first | (simp; done) | (simp; omega))] | rw [hx.frozens _ _ (by first | (simp; done) | (simp; omega))]); (first | (simp [go_sem]; done) | (simp [go_sem, World.cell?_alloc_past]; done) | (simp [go_sem, World.frozen?]; done))))
    have HN := hide (show ¬ nn = 0 by omega)
    cases hz : (x2 == x3 && y2 == y3)
    · clear heq
      have HZ := hide (show x2 = x3 → ¬ y2 = y3 by simp only [Bool.and_eq_false_iff, beq_eq_false_iff_ne] at hz; omega)
      clear hz
      cases cr
      · clear hcm
        cases me
        · go_wp2_with fail
          refine (LatticeSteps_at _ _ _ _ _ _ F9.out).mono ?_
          rintro e wz ⟨rfl, hbt⟩
          have hcc := HB.out wz (by (repeat (first | exact Ext.refl _ | assumption | apply Ext.alloc | apply Ext.drew | apply Ext.drewN | (refine Ext.trans ?_ (by assumption)))))
          have HX : Hid (∀ w', Ext (wz.alloc (.cells #[.int .i64 x4, .int .i64 y4, .int .i64 x3, .int .i64 y3] 32)) w' → w'.cell? ⟨wz.heap.size, 0, none⟩ = some (.int .i64 x4) ∧ w'.cell? ⟨wz.heap.size, 1, none⟩ = some (.int .i64 y4) ∧ w'.cell? ⟨wz.heap.size, 2, none⟩ = some (.int .i64 x3) ∧ w'.cell? ⟨wz.heap.size, 3, none⟩ = some (.int .i64 y3) ∧ wz.heap.size < w'.heap.size) := fun w' hx => by
            and_intros <;> (first | (have hz := hx.size; simp at hz; omega) | ((first | rw [hx.cells _ _ (by first | (simp; done) | (simp; omega))] | rw [hx.frozens _ _ (by first | (simp; done) | (simp; omega))]); (first | (simp [go_sem]; done) | (simp [go_sem, World.cell?_alloc_past]; done) | (simp [go_sem, World.frozen?]; done))))
          go_wp2
          simp only [List.append_eq, List.cons_append, List.nil_append]
          refine wp_flow (by kernel_rfl) (by kernel_rfl) (fun u => ⟨#[_, _, u 83, _, _, _, _, _, _, _, _, _, _, _, _, _, _, _, _, _, _, u 0, u 1, u 2, u 3, u 4, u 5, u 6, u 7, u 8, u 9, u 10, u 11, u 12, u 13, u 14, u 15, u 16, u 17, u 18, u 19, u 20, u 21, u 22, u 23, u 24, u 25, u 26, u 27, u 28, u 29, u 30, u 31, u 32, u 33, u 34, u 35, u 36, u 37, u 38, u 39, u 40, u 41, u 42, u 43, u 44, u 45, u 46, u 47, u 48, u 49, u 50, u 51, u 52, u 53, u 54, u 55, u 56, u 57, u 58, u 59, u 60, u 61, u 62, u 63, u 64, u 65, u 66, u 67, u 68, u 69, u 70, u 71, u 72, u 73, u 74, u 75, u 76, u 77, u 78, u 79, u 80, u 81, u 82], _⟩) (fun i => List.getD [_, _, _, _, _, _, _, _, _, _, _, _, _, _, _, _, _, _, _, _, _, _, _, _, _, _, _, _, _, _, _, _, _, _, _, _, _, _, _, _, _, _, _, _, _, _, _, _, _, _, _, _, _, _, _, _, _, _, _, _, _, _, _, _, _, _, _, _, _, _, _, _, _, _, _, _, _, _, _, _, _, _, _, _] i undef) [is (.agg #[.int .i64 x1, .int .i64 y1, .int .i64 x2, .int .i64 y2]), is (.agg #[.int .i64 x3, .int .i64 y3, .int .i64 x4, .int .i64 y4]), is (.bool false), is (.agg #[.int .i64 x3, .int .i64 y3, .int .i64 x4, .int .i64 y4]), is (.agg #[.int .i64 x1, .int .i64 y1, .int .i64 x2, .int .i64 y2]), is (.bool false), is (.bool true), is (.bool true), is (.agg #[.int .i64 x1, .int .i64 y1, .int .i64 x2, .int .i64 y2]), is (.agg #[.int .i64 x3, .int .i64 y3, .int .i64 x4, .int .i64 y4]), is (.bool false), is (.agg #[.int .i64 x3, .int .i64 y3, .int .i64 x4, .int .i64 y4]), is (.agg #[.int .i64 x1, .int .i64 y1, .int .i64 x2, .int .i64 y2]), is (.bool false), is (.bool true), is (.bool true), is (.bool true), is (.agg #[.int .i64 x1, .int .i64 y1, .int .i64 x2, .int .i64 y2]), is (.agg #[.int .i64 x3, .int .i64 y3, .int .i64 x4, .int .i64 y4]), is (.bool false), is (.bool true), is (.bool true), is (undef), is (undef), is (undef), is (.bool true), is (.bool true), is (.bool true), is (.pointer (some ⟨w1.heap.size, 2, none⟩)), is (.agg #[.int .i64 x2, .int .i64 y2]), is (.pointer (some ⟨w1.heap.size + 1, 0, none⟩)), is (.agg #[.int .i64 x3, .int .i64 y3]), is (.bool true), is (.bool true), is (undef), is (undef), is (undef), is (undef), is (undef), is (undef), is (undef), is (undef), is (undef), is (.bool true), is (.bool true), is (.bool true), is (.int .i64 (n)), is (.bool true), is (.bool true), is (.bool true), is (.int .i64 (n)), is (.bool true), is (.bool true), is (.bool true), is (.agg #[.int .i64 x3, .int .i64 y3, .int .i64 x4, .int .i64 y4]), is (.int .i64 (q)), is (.int .i64 (n)), is (.int .i64 (n)), is (.int .i64 (nn)), is (.int .i64 (0)), is (.bool true), is (.bool true), is (.bool true), is (.agg #[.int .i64 x4, .int .i64 y4, .int .i64 x3, .int .i64 y3]), is (.int .i64 (n)), is (.int .i64 (n)), is (.bool true), is (.bool true), is (.bool true), is (.agg #[.int .i64 x1, .int .i64 y1, .int .i64 x2, .int .i64 y2]), is (.agg #[.int .i64 x4, .int .i64 y4, .int .i64 x3, .int .i64 y3]), is (.bool false), is (.agg #[.int .i64 x1, .int .i64 y1, .int .i64 x2, .int .i64 y2]), is (.agg #[.int .i64 x3, .int .i64 y3, .int .i64 x4, .int .i64 y4]), is (.bool false), is (.bool true), is (.bool true), is (.bool true), is (.agg #[.int .i64 x3, .int .i64 y3, .int .i64 x4, .int .i64 y4]), is (.pointer (some ⟨w1.heap.size + 1, 0, none⟩)), is (.agg #[.int .i64 x3, .int .i64 y3]), is (.bool true), is (.bool true), is (.bool true)] (fun w' => w'.cell? ⟨w1.heap.size, 0, none⟩ = some (.int .i64 x1) ∧ w'.cell? ⟨w1.heap.size, 1, none⟩ = some (.int .i64 y1) ∧ w'.cell? ⟨w1.heap.size, 2, none⟩ = some (.int .i64 x2) ∧ w'.cell? ⟨w1.heap.size, 3, none⟩ = some (.int .i64 y2) ∧ w1.heap.size < w'.heap.size ∧ w'.cell? ⟨w1.heap.size + 1, 0, none⟩ = some (.int .i64 x3) ∧ w'.cell? ⟨w1.heap.size + 1, 1, none⟩ = some (.int .i64 y3) ∧ w'.cell? ⟨w1.heap.size + 1, 2, none⟩ = some (.int .i64 x4) ∧ w'.cell? ⟨w1.heap.size + 1, 3, none⟩ = some (.int .i64 y4) ∧ w1.heap.size + 1 < w'.heap.size ∧ w'.cell? ⟨wz.heap.size, 0, none⟩ = some (.int .i64 x4) ∧ w'.cell? ⟨wz.heap.size, 1, none⟩ = some (.int .i64 y4) ∧ w'.cell? ⟨wz.heap.size, 2, none⟩ = some (.int .i64 x3) ∧ w'.cell? ⟨wz.heap.size, 3, none⟩ = some (.int .i64 y3) ∧ wz.heap.size < w'.heap.size) _ rfl ?hC1 ?hs1 ?hV1 ?fin1
          case hC1 => exact fun w' hx => (by have hq : Ext _ w' := hx; have hf0 := HB.out w' (by (repeat (first | exact Ext.refl _ | assumption | apply Ext.alloc | apply Ext.drew | apply Ext.drewN | (refine Ext.trans ?_ (by assumption))))); have hf1 := HX.out w' (by (repeat (first | exact Ext.refl _ | assumption | apply Ext.alloc | apply Ext.drew | apply Ext.drewN | (refine Ext.trans ?_ (by assumption))))); and_intros <;> first | exact hf0 | exact hf0.1 | exact hf0.2.1 | exact hf0.2.2.1 | exact hf0.2.2.2.1 | exact hf0.2.2.2.2.1 | exact hf0.2.2.2.2.2.1 | exact hf0.2.2.2.2.2.2.1 | exact hf0.2.2.2.2.2.2.2.1 | exact hf0.2.2.2.2.2.2.2.2.1 | exact hf0.2.2.2.2.2.2.2.2.2.1 | exact hf0.2.2.2.2.2.2.2.2.2.2.1 | exact hf0.2.2.2.2.2.2.2.2.2.2.2.1 | exact hf0.2.2.2.2.2.2.2.2.2.2.2.2.1 | exact hf0.2.2.2.2.2.2.2.2.2.2.2.2.2.1 | exact hf0.2 | exact hf0.2.2 | exact hf0.2.2.2 | exact hf0.2.2.2.2 | exact hf0.2.2.2.2.2 | exact hf0.2.2.2.2.2.2 | exact hf0.2.2.2.2.2.2.2 | exact hf0.2.2.2.2.2.2.2.2 | exact hf0.2.2.2.2.2.2.2.2.2 | exact hf0.2.2.2.2.2.2.2.2.2.2 | exact hf0.2.2.2.2.2.2.2.2.2.2.2 | exact hf0.2.2.2.2.2.2.2.2.2.2.2.2 | exact hf0.2.2.2.2.2.2.2.2.2.2.2.2.2 | exact hf1 | exact hf1.1 | exact hf1.2.1 | exact hf1.2.2.1 | exact hf1.2.2.2.1 | exact hf1.2.2.2.2.1 | exact hf1.2.2.2.2.2.1 | exact hf1.2.2.2.2.2.2.1 | exact hf1.2.2.2.2.2.2.2.1 | exact hf1.2.2.2.2.2.2.2.2.1 | exact hf1.2.2.2.2.2.2.2.2.2.1 | exact hf1.2.2.2.2.2.2.2.2.2.2.1 | exact hf1.2.2.2.2.2.2.2.2.2.2.2.1 | exact hf1.2.2.2.2.2.2.2.2.2.2.2.2.1 | exact hf1.2.2.2.2.2.2.2.2.2.2.2.2.2.1 | exact hf1.2 | exact hf1.2.2 | exact hf1.2.2.2 | exact hf1.2.2.2.2 | exact hf1.2.2.2.2.2 | exact hf1.2.2.2.2.2.2 | exact hf1.2.2.2.2.2.2.2 | exact hf1.2.2.2.2.2.2.2.2 | exact hf1.2.2.2.2.2.2.2.2.2 | exact hf1.2.2.2.2.2.2.2.2.2.2 | exact hf1.2.2.2.2.2.2.2.2.2.2.2 | exact hf1.2.2.2.2.2.2.2.2.2.2.2.2 | exact hf1.2.2.2.2.2.2.2.2.2.2.2.2.2)
          case hs1 =>
            refine FSteps.cons (FStep.value (.agg #[.int .i64 x1, .int .i64 y1, .int .i64 x2, .int .i64 y2]) (fun _ _ _ => wanted_none rfl) (fun _ _ => rfl) (fun _ => rfl) (fun u w hW hC (hd : After _ _ u w) ρ hρ => ?_)) ?_
            · have r3 : ρ (.tmp 3) = .pointer (some ⟨w1.heap.size, 0, none⟩) := (by subst hρ; rfl); clear hρ hd
              (go_simp; (try (first | exact wrap_in _ (by omega) (by omega) | exact HZ.out | exact HN.out | rw [if_pos HZ.out.1, if_pos HZ.out.2])))
            refine FSteps.cons (FStep.value (.agg #[.int .i64 x3, .int .i64 y3, .int .i64 x4, .int .i64 y4]) (fun _ _ _ => wanted_none rfl) (fun _ _ => rfl) (fun _ => rfl) (fun u w hW hC (hd : After _ _ u w) ρ hρ => ?_)) ?_
            · have r4 : ρ (.tmp 4) = .pointer (some ⟨w1.heap.size + 1, 0, none⟩) := (by subst hρ; rfl); clear hρ hd
              (go_simp; (try (first | exact wrap_in _ (by omega) (by omega) | exact HZ.out | exact HN.out | rw [if_pos HZ.out.1, if_pos HZ.out.2])))
            refine FSteps.cons (FStep.call (.bool false) _ #[.agg #[.int .i64 x1, .int .i64 y1, .int .i64 x2, .int .i64 y2], .agg #[.int .i64 x3, .int .i64 y3, .int .i64 x4, .int .i64 y4]] (fun _ _ _ => wanted_none rfl) (fun _ _ => rfl) (fun _ => rfl) (fun u w hW hC (hd : After _ _ u w) ρ hρ => ?_) (fun w => DoCross_at _ _ _ _ _ _ _ _ _ w F1.out)) ?_
            · have r21 : ρ (.tmp 21) = .agg #[.int .i64 x1, .int .i64 y1, .int .i64 x2, .int .i64 y2] := (by rw [hρ]; exact hd.get 0 _ rfl rfl); have r22 : ρ (.tmp 22) = .agg #[.int .i64 x3, .int .i64 y3, .int .i64 x4, .int .i64 y4] := (by rw [hρ]; exact hd.get 1 _ rfl rfl); have rf : ∀ f, ρ (.func f) = .func (.func f) #[] #[] := (by subst hρ; exact fun _ => rfl); clear hρ hd
              (go_simp; (try (first | exact wrap_in _ (by omega) (by omega) | exact HZ.out | exact HN.out | rw [if_pos HZ.out.1, if_pos HZ.out.2])))
            refine FSteps.cons (FStep.value (.agg #[.int .i64 x3, .int .i64 y3, .int .i64 x4, .int .i64 y4]) (fun _ _ _ => wanted_none rfl) (fun _ _ => rfl) (fun _ => rfl) (fun u w hW hC (hd : After _ _ u w) ρ hρ => ?_)) ?_
            · have r4 : ρ (.tmp 4) = .pointer (some ⟨w1.heap.size + 1, 0, none⟩) := (by subst hρ; rfl); clear hρ hd
              (go_simp; (try (first | exact wrap_in _ (by omega) (by omega) | exact HZ.out | exact HN.out | rw [if_pos HZ.out.1, if_pos HZ.out.2])))
            refine FSteps.cons (FStep.value (.agg #[.int .i64 x1, .int .i64 y1, .int .i64 x2, .int .i64 y2]) (fun _ _ _ => wanted_none rfl) (fun _ _ => rfl) (fun _ => rfl) (fun u w hW hC (hd : After _ _ u w) ρ hρ => ?_)) ?_
            · have r3 : ρ (.tmp 3) = .pointer (some ⟨w1.heap.size, 0, none⟩) := (by subst hρ; rfl); clear hρ hd
              (go_simp; (try (first | exact wrap_in _ (by omega) (by omega) | exact HZ.out | exact HN.out | rw [if_pos HZ.out.1, if_pos HZ.out.2])))
            refine FSteps.cons (FStep.call (.bool false) _ #[.agg #[.int .i64 x3, .int .i64 y3, .int .i64 x4, .int .i64 y4], .agg #[.int .i64 x1, .int .i64 y1, .int .i64 x2, .int .i64 y2]] (fun _ _ _ => wanted_none rfl) (fun _ _ => rfl) (fun _ => rfl) (fun u w hW hC (hd : After _ _ u w) ρ hρ => ?_) (fun w => DoCross_at _ _ _ _ _ _ _ _ _ w F2.out)) ?_
            · have r24 : ρ (.tmp 24) = .agg #[.int .i64 x3, .int .i64 y3, .int .i64 x4, .int .i64 y4] := (by rw [hρ]; exact hd.get 0 _ rfl rfl); have r25 : ρ (.tmp 25) = .agg #[.int .i64 x1, .int .i64 y1, .int .i64 x2, .int .i64 y2] := (by rw [hρ]; exact hd.get 1 _ rfl rfl); have rf : ∀ f, ρ (.func f) = .func (.func f) #[] #[] := (by subst hρ; exact fun _ => rfl); clear hρ hd
              (go_simp; (try (first | exact wrap_in _ (by omega) (by omega) | exact HZ.out | exact HN.out | rw [if_pos HZ.out.1, if_pos HZ.out.2])))
            refine FSteps.cons (FStep.value (.bool true) (fun _ _ _ => wanted_none rfl) (fun _ _ => rfl) (fun _ => rfl) (fun u w hW hC (hd : After _ _ u w) ρ hρ => ?_)) ?_
            · have r23 : ρ (.tmp 23) = .bool false := (by rw [hρ]; exact hd.get 0 _ rfl rfl); have r26 : ρ (.tmp 26) = .bool false := (by rw [hρ]; exact hd.get 1 _ rfl rfl); clear hρ hd
              (go_simp; (try (first | exact wrap_in _ (by omega) (by omega) | exact HZ.out | exact HN.out | rw [if_pos HZ.out.1, if_pos HZ.out.2])))
            refine FSteps.cons (FStep.value (.bool true) (fun _ _ _ => wanted_none rfl) (fun _ _ => rfl) (fun _ => rfl) (fun u w hW hC (hd : After _ _ u w) ρ hρ => ?_)) ?_
            · have r27 : ρ (.tmp 27) = .bool true := (by rw [hρ]; exact hd.get 0 _ rfl rfl); clear hρ hd
              (go_simp; (try (first | exact wrap_in _ (by omega) (by omega) | exact HZ.out | exact HN.out | rw [if_pos HZ.out.1, if_pos HZ.out.2])))
            refine FSteps.cons (FStep.value (.agg #[.int .i64 x1, .int .i64 y1, .int .i64 x2, .int .i64 y2]) (fun u w hd => wanted_on 7 28 true rfl rfl (congrArg some (hd.get 0 _ rfl rfl))) (fun _ _ => rfl) (fun _ => rfl) (fun u w hW hC (hd : After _ _ u w) ρ hρ => ?_)) ?_
            · have r3 : ρ (.tmp 3) = .pointer (some ⟨w1.heap.size, 0, none⟩) := (by subst hρ; rfl); clear hρ hd
              (go_simp; (try (first | exact wrap_in _ (by omega) (by omega) | exact HZ.out | exact HN.out | rw [if_pos HZ.out.1, if_pos HZ.out.2])))
            refine FSteps.cons (FStep.value (.agg #[.int .i64 x3, .int .i64 y3, .int .i64 x4, .int .i64 y4]) (fun u w hd => wanted_on 7 28 true rfl rfl (congrArg some (hd.get 0 _ rfl rfl))) (fun _ _ => rfl) (fun _ => rfl) (fun u w hW hC (hd : After _ _ u w) ρ hρ => ?_)) ?_
            · have r4 : ρ (.tmp 4) = .pointer (some ⟨w1.heap.size + 1, 0, none⟩) := (by subst hρ; rfl); clear hρ hd
              (go_simp; (try (first | exact wrap_in _ (by omega) (by omega) | exact HZ.out | exact HN.out | rw [if_pos HZ.out.1, if_pos HZ.out.2])))
            refine FSteps.cons (FStep.call (.bool false) _ #[.agg #[.int .i64 x1, .int .i64 y1, .int .i64 x2, .int .i64 y2], .agg #[.int .i64 x3, .int .i64 y3, .int .i64 x4, .int .i64 y4]] (fun u w hd => wanted_on 7 28 true rfl rfl (congrArg some (hd.get 2 _ rfl rfl))) (fun _ _ => rfl) (fun _ => rfl) (fun u w hW hC (hd : After _ _ u w) ρ hρ => ?_) (fun w => DoMeet_at _ _ _ _ _ _ _ _ _ w F3.out)) ?_
            · have r29 : ρ (.tmp 29) = .agg #[.int .i64 x1, .int .i64 y1, .int .i64 x2, .int .i64 y2] := (by rw [hρ]; exact hd.get 0 _ rfl rfl); have r30 : ρ (.tmp 30) = .agg #[.int .i64 x3, .int .i64 y3, .int .i64 x4, .int .i64 y4] := (by rw [hρ]; exact hd.get 1 _ rfl rfl); have rf : ∀ f, ρ (.func f) = .func (.func f) #[] #[] := (by subst hρ; exact fun _ => rfl); clear hρ hd
              (go_simp; (try (first | exact wrap_in _ (by omega) (by omega) | exact HZ.out | exact HN.out | rw [if_pos HZ.out.1, if_pos HZ.out.2])))
            refine FSteps.cons (FStep.value (.agg #[.int .i64 x3, .int .i64 y3, .int .i64 x4, .int .i64 y4]) (fun u w hd => wanted_on 7 28 true rfl rfl (congrArg some (hd.get 0 _ rfl rfl))) (fun _ _ => rfl) (fun _ => rfl) (fun u w hW hC (hd : After _ _ u w) ρ hρ => ?_)) ?_
            · have r4 : ρ (.tmp 4) = .pointer (some ⟨w1.heap.size + 1, 0, none⟩) := (by subst hρ; rfl); clear hρ hd
              (go_simp; (try (first | exact wrap_in _ (by omega) (by omega) | exact HZ.out | exact HN.out | rw [if_pos HZ.out.1, if_pos HZ.out.2])))
            refine FSteps.cons (FStep.value (.agg #[.int .i64 x1, .int .i64 y1, .int .i64 x2, .int .i64 y2]) (fun u w hd => wanted_on 7 28 true rfl rfl (congrArg some (hd.get 0 _ rfl rfl))) (fun _ _ => rfl) (fun _ => rfl) (fun u w hW hC (hd : After _ _ u w) ρ hρ => ?_)) ?_
            · have r3 : ρ (.tmp 3) = .pointer (some ⟨w1.heap.size, 0, none⟩) := (by subst hρ; rfl); clear hρ hd
              (go_simp; (try (first | exact wrap_in _ (by omega) (by omega) | exact HZ.out | exact HN.out | rw [if_pos HZ.out.1, if_pos HZ.out.2])))
            refine FSteps.cons (FStep.call (.bool false) _ #[.agg #[.int .i64 x3, .int .i64 y3, .int .i64 x4, .int .i64 y4], .agg #[.int .i64 x1, .int .i64 y1, .int .i64 x2, .int .i64 y2]] (fun u w hd => wanted_on 7 28 true rfl rfl (congrArg some (hd.get 3 _ rfl rfl))) (fun _ _ => rfl) (fun _ => rfl) (fun u w hW hC (hd : After _ _ u w) ρ hρ => ?_) (fun w => DoMeet_at _ _ _ _ _ _ _ _ _ w F4.out)) ?_
            · have r32 : ρ (.tmp 32) = .agg #[.int .i64 x3, .int .i64 y3, .int .i64 x4, .int .i64 y4] := (by rw [hρ]; exact hd.get 0 _ rfl rfl); have r33 : ρ (.tmp 33) = .agg #[.int .i64 x1, .int .i64 y1, .int .i64 x2, .int .i64 y2] := (by rw [hρ]; exact hd.get 1 _ rfl rfl); have rf : ∀ f, ρ (.func f) = .func (.func f) #[] #[] := (by subst hρ; exact fun _ => rfl); clear hρ hd
              (go_simp; (try (first | exact wrap_in _ (by omega) (by omega) | exact HZ.out | exact HN.out | rw [if_pos HZ.out.1, if_pos HZ.out.2])))
            refine FSteps.cons (FStep.value (.bool true) (fun u w hd => wanted_on 7 28 true rfl rfl (congrArg some (hd.get 2 _ rfl rfl))) (fun _ _ => rfl) (fun _ => rfl) (fun u w hW hC (hd : After _ _ u w) ρ hρ => ?_)) ?_
            · have r31 : ρ (.tmp 31) = .bool false := (by rw [hρ]; exact hd.get 0 _ rfl rfl); have r34 : ρ (.tmp 34) = .bool false := (by rw [hρ]; exact hd.get 1 _ rfl rfl); clear hρ hd
              (go_simp; (try (first | exact wrap_in _ (by omega) (by omega) | exact HZ.out | exact HN.out | rw [if_pos HZ.out.1, if_pos HZ.out.2])))
            refine FSteps.cons (FStep.value (.bool true) (fun _ _ _ => wanted_none rfl) (fun _ _ => rfl) (fun _ => rfl) (fun u w hW hC (hd : After _ _ u w) ρ hρ => ?_)) ?_
            · have r28 : ρ (.tmp 28) = .bool true := (by rw [hρ]; exact hd.get 0 _ rfl rfl); have r35 : ρ (.tmp 35) = .bool true := (by rw [hρ]; exact hd.get 1 _ rfl rfl); have rc : ∀ v, ρ (.const v) = v := (by subst hρ; exact fun _ => rfl); clear hρ hd
              (go_simp; (try (first | exact wrap_in _ (by omega) (by omega) | exact HZ.out | exact HN.out | rw [if_pos HZ.out.1, if_pos HZ.out.2])))
            refine FSteps.cons (FStep.value (.bool true) (fun _ _ _ => wanted_none rfl) (fun _ _ => rfl) (fun _ => rfl) (fun u w hW hC (hd : After _ _ u w) ρ hρ => ?_)) ?_
            · have r36 : ρ (.tmp 36) = .bool true := (by rw [hρ]; exact hd.get 0 _ rfl rfl); clear hρ hd
              (go_simp; (try (first | exact wrap_in _ (by omega) (by omega) | exact HZ.out | exact HN.out | rw [if_pos HZ.out.1, if_pos HZ.out.2])))
            refine FSteps.cons (FStep.value (.agg #[.int .i64 x1, .int .i64 y1, .int .i64 x2, .int .i64 y2]) (fun u w hd => wanted_on 16 37 true rfl rfl (congrArg some (hd.get 0 _ rfl rfl))) (fun _ _ => rfl) (fun _ => rfl) (fun u w hW hC (hd : After _ _ u w) ρ hρ => ?_)) ?_
            · have r3 : ρ (.tmp 3) = .pointer (some ⟨w1.heap.size, 0, none⟩) := (by subst hρ; rfl); clear hρ hd
              (go_simp; (try (first | exact wrap_in _ (by omega) (by omega) | exact HZ.out | exact HN.out | rw [if_pos HZ.out.1, if_pos HZ.out.2])))
            refine FSteps.cons (FStep.value (.agg #[.int .i64 x3, .int .i64 y3, .int .i64 x4, .int .i64 y4]) (fun u w hd => wanted_on 16 37 true rfl rfl (congrArg some (hd.get 0 _ rfl rfl))) (fun _ _ => rfl) (fun _ => rfl) (fun u w hW hC (hd : After _ _ u w) ρ hρ => ?_)) ?_
            · have r4 : ρ (.tmp 4) = .pointer (some ⟨w1.heap.size + 1, 0, none⟩) := (by subst hρ; rfl); clear hρ hd
              (go_simp; (try (first | exact wrap_in _ (by omega) (by omega) | exact HZ.out | exact HN.out | rw [if_pos HZ.out.1, if_pos HZ.out.2])))
            refine FSteps.cons (FStep.call (.bool false) _ #[.agg #[.int .i64 x1, .int .i64 y1, .int .i64 x2, .int .i64 y2], .agg #[.int .i64 x3, .int .i64 y3, .int .i64 x4, .int .i64 y4]] (fun u w hd => wanted_on 16 37 true rfl rfl (congrArg some (hd.get 2 _ rfl rfl))) (fun _ _ => rfl) (fun _ => rfl) (fun u w hW hC (hd : After _ _ u w) ρ hρ => ?_) (fun w => DoCross_at _ _ _ _ _ _ _ _ _ w F1.out)) ?_
            · have r38 : ρ (.tmp 38) = .agg #[.int .i64 x1, .int .i64 y1, .int .i64 x2, .int .i64 y2] := (by rw [hρ]; exact hd.get 0 _ rfl rfl); have r39 : ρ (.tmp 39) = .agg #[.int .i64 x3, .int .i64 y3, .int .i64 x4, .int .i64 y4] := (by rw [hρ]; exact hd.get 1 _ rfl rfl); have rf : ∀ f, ρ (.func f) = .func (.func f) #[] #[] := (by subst hρ; exact fun _ => rfl); clear hρ hd
              (go_simp; (try (first | exact wrap_in _ (by omega) (by omega) | exact HZ.out | exact HN.out | rw [if_pos HZ.out.1, if_pos HZ.out.2])))
            refine FSteps.cons (FStep.value (.bool true) (fun u w hd => wanted_on 16 37 true rfl rfl (congrArg some (hd.get 1 _ rfl rfl))) (fun _ _ => rfl) (fun _ => rfl) (fun u w hW hC (hd : After _ _ u w) ρ hρ => ?_)) ?_
            · have r40 : ρ (.tmp 40) = .bool false := (by rw [hρ]; exact hd.get 0 _ rfl rfl); clear hρ hd
              (go_simp; (try (first | exact wrap_in _ (by omega) (by omega) | exact HZ.out | exact HN.out | rw [if_pos HZ.out.1, if_pos HZ.out.2])))
            refine FSteps.cons (FStep.value (.bool true) (fun u w hd => wanted_on 16 37 true rfl rfl (congrArg some (hd.get 2 _ rfl rfl))) (fun _ _ => rfl) (fun _ => rfl) (fun u w hW hC (hd : After _ _ u w) ρ hρ => ?_)) ?_
            · have r41 : ρ (.tmp 41) = .bool true := (by rw [hρ]; exact hd.get 0 _ rfl rfl); clear hρ hd
              (go_simp; (try (first | exact wrap_in _ (by omega) (by omega) | exact HZ.out | exact HN.out | rw [if_pos HZ.out.1, if_pos HZ.out.2])))
            refine FSteps.cons (FStep.off_ 21 42 false rfl rfl (fun u w hd => .inl (congrArg some (After.get (V := vOf _) hd 0 _ rfl rfl))) (fun _ => rfl) (fun _ => rfl)) ?_
            refine FSteps.cons (FStep.off_ 21 42 false rfl rfl (fun u w hd => .inl (congrArg some (After.get (V := vOf _) hd 0 _ rfl rfl))) (fun _ => rfl) (fun _ => rfl)) ?_
            refine FSteps.cons (FStep.off_ 21 42 false rfl rfl (fun u w hd => .inl (congrArg some (After.get (V := vOf _) hd 2 _ rfl rfl))) (fun _ => rfl) (fun _ => rfl)) ?_
            refine FSteps.cons (FStep.value (.bool true) (fun u w hd => wanted_on 16 37 true rfl rfl (congrArg some (hd.get 2 _ rfl rfl))) (fun _ _ => rfl) (fun _ => rfl) (fun u w hW hC (hd : After _ _ u w) ρ hρ => ?_)) ?_
            · have r42 : ρ (.tmp 42) = .bool true := (by rw [hρ]; exact hd.get 0 _ rfl rfl); have r45 : ρ (.tmp 45) = undef := (by rw [hρ]; exact hd.get 1 _ rfl rfl); have rc : ∀ v, ρ (.const v) = v := (by subst hρ; exact fun _ => rfl); clear hρ hd
              (go_simp; (try (first | exact wrap_in _ (by omega) (by omega) | exact HZ.out | exact HN.out | rw [if_pos HZ.out.1, if_pos HZ.out.2])))
            refine FSteps.cons (FStep.value (.bool true) (fun _ _ _ => wanted_none rfl) (fun _ _ => rfl) (fun _ => rfl) (fun u w hW hC (hd : After _ _ u w) ρ hρ => ?_)) ?_
            · have r37 : ρ (.tmp 37) = .bool true := (by rw [hρ]; exact hd.get 0 _ rfl rfl); have r46 : ρ (.tmp 46) = .bool true := (by rw [hρ]; exact hd.get 1 _ rfl rfl); have rc : ∀ v, ρ (.const v) = v := (by subst hρ; exact fun _ => rfl); clear hρ hd
              (go_simp; (try (first | exact wrap_in _ (by omega) (by omega) | exact HZ.out | exact HN.out | rw [if_pos HZ.out.1, if_pos HZ.out.2])))
            refine FSteps.cons (FStep.value (.bool true) (fun _ _ _ => wanted_none rfl) (fun _ _ => rfl) (fun _ => rfl) (fun u w hW hC (hd : After _ _ u w) ρ hρ => ?_)) ?_
            · have r47 : ρ (.tmp 47) = .bool true := (by rw [hρ]; exact hd.get 0 _ rfl rfl); clear hρ hd
              (go_simp; (try (first | exact wrap_in _ (by omega) (by omega) | exact HZ.out | exact HN.out | rw [if_pos HZ.out.1, if_pos HZ.out.2])))
            refine FSteps.cons (FStep.value (.pointer (some ⟨w1.heap.size, 2, none⟩)) (fun u w hd => wanted_on 27 48 true rfl rfl (congrArg some (hd.get 0 _ rfl rfl))) (fun _ _ => rfl) (fun _ => rfl) (fun u w hW hC (hd : After _ _ u w) ρ hρ => ?_)) ?_
            · have r3 : ρ (.tmp 3) = .pointer (some ⟨w1.heap.size, 0, none⟩) := (by subst hρ; rfl); clear hρ hd
              (go_simp; (try (first | exact wrap_in _ (by omega) (by omega) | exact HZ.out | exact HN.out | rw [if_pos HZ.out.1, if_pos HZ.out.2])))
            refine FSteps.cons (FStep.value (.agg #[.int .i64 x2, .int .i64 y2]) (fun u w hd => wanted_on 27 48 true rfl rfl (congrArg some (hd.get 1 _ rfl rfl))) (fun _ _ => rfl) (fun _ => rfl) (fun u w hW hC (hd : After _ _ u w) ρ hρ => ?_)) ?_
            · have r49 : ρ (.tmp 49) = .pointer (some ⟨w1.heap.size, 2, none⟩) := (by rw [hρ]; exact hd.get 0 _ rfl rfl); clear hρ hd
              (go_simp; (try (first | exact wrap_in _ (by omega) (by omega) | exact HZ.out | exact HN.out | rw [if_pos HZ.out.1, if_pos HZ.out.2])))
            refine FSteps.cons (FStep.value (.pointer (some ⟨w1.heap.size + 1, 0, none⟩)) (fun u w hd => wanted_on 27 48 true rfl rfl (congrArg some (hd.get 0 _ rfl rfl))) (fun _ _ => rfl) (fun _ => rfl) (fun u w hW hC (hd : After _ _ u w) ρ hρ => ?_)) ?_
            · have r4 : ρ (.tmp 4) = .pointer (some ⟨w1.heap.size + 1, 0, none⟩) := (by subst hρ; rfl); clear hρ hd
              (go_simp; (try (first | exact wrap_in _ (by omega) (by omega) | exact HZ.out | exact HN.out | rw [if_pos HZ.out.1, if_pos HZ.out.2])))
            refine FSteps.cons (FStep.value (.agg #[.int .i64 x3, .int .i64 y3]) (fun u w hd => wanted_on 27 48 true rfl rfl (congrArg some (hd.get 1 _ rfl rfl))) (fun _ _ => rfl) (fun _ => rfl) (fun u w hW hC (hd : After _ _ u w) ρ hρ => ?_)) ?_
            · have r51 : ρ (.tmp 51) = .pointer (some ⟨w1.heap.size + 1, 0, none⟩) := (by rw [hρ]; exact hd.get 0 _ rfl rfl); clear hρ hd
              (go_simp; (try (first | exact wrap_in _ (by omega) (by omega) | exact HZ.out | exact HN.out | rw [if_pos HZ.out.1, if_pos HZ.out.2])))
            refine FSteps.cons (FStep.value (.bool true) (fun u w hd => wanted_on 27 48 true rfl rfl (congrArg some (hd.get 2 _ rfl rfl))) (fun _ _ => rfl) (fun _ => rfl) (fun u w hW hC (hd : After _ _ u w) ρ hρ => ?_)) ?_
            · have r50 : ρ (.tmp 50) = .agg #[.int .i64 x2, .int .i64 y2] := (by rw [hρ]; exact hd.get 0 _ rfl rfl); have r52 : ρ (.tmp 52) = .agg #[.int .i64 x3, .int .i64 y3] := (by rw [hρ]; exact hd.get 1 _ rfl rfl); clear hρ hd
              (go_simp; (try (first | exact wrap_in _ (by omega) (by omega) | exact HZ.out | exact HN.out | rw [if_pos HZ.out.1, if_pos HZ.out.2])))
            refine FSteps.cons (FStep.value (.bool true) (fun u w hd => wanted_on 27 48 true rfl rfl (congrArg some (hd.get 1 _ rfl rfl))) (fun _ _ => rfl) (fun _ => rfl) (fun u w hW hC (hd : After _ _ u w) ρ hρ => ?_)) ?_
            · have r53 : ρ (.tmp 53) = .bool true := (by rw [hρ]; exact hd.get 0 _ rfl rfl); clear hρ hd
              (go_simp; (try (first | exact wrap_in _ (by omega) (by omega) | exact HZ.out | exact HN.out | rw [if_pos HZ.out.1, if_pos HZ.out.2])))
            refine FSteps.cons (FStep.off_ 33 54 false rfl rfl (fun u w hd => .inl (congrArg some (After.get (V := vOf _) hd 0 _ rfl rfl))) (fun _ => rfl) (fun _ => rfl)) ?_
            refine FSteps.cons (FStep.off_ 33 54 false rfl rfl (fun u w hd => .inl (congrArg some (After.get (V := vOf _) hd 0 _ rfl rfl))) (fun _ => rfl) (fun _ => rfl)) ?_
            refine FSteps.cons (FStep.off_ 33 54 false rfl rfl (fun u w hd => .inl (congrArg some (After.get (V := vOf _) hd 2 _ rfl rfl))) (fun _ => rfl) (fun _ => rfl)) ?_
            refine FSteps.cons (FStep.off_ 33 54 false rfl rfl (fun u w hd => .inl (congrArg some (After.get (V := vOf _) hd 2 _ rfl rfl))) (fun _ => rfl) (fun _ => rfl)) ?_
            refine FSteps.cons (FStep.off_ 37 58 true rfl rfl (fun u w hd => .inr (congrArg some (After.get (V := vOf _) hd 0 _ rfl rfl))) (fun _ => rfl) (fun _ => rfl)) ?_
            refine FSteps.cons (FStep.off_ 37 58 true rfl rfl (fun u w hd => .inr (congrArg some (After.get (V := vOf _) hd 0 _ rfl rfl))) (fun _ => rfl) (fun _ => rfl)) ?_
            refine FSteps.cons (FStep.off_ 37 58 true rfl rfl (fun u w hd => .inr (congrArg some (After.get (V := vOf _) hd 2 _ rfl rfl))) (fun _ => rfl) (fun _ => rfl)) ?_
            refine FSteps.cons (FStep.off_ 37 58 true rfl rfl (fun u w hd => .inr (congrArg some (After.get (V := vOf _) hd 1 _ rfl rfl))) (fun _ => rfl) (fun _ => rfl)) ?_
            refine FSteps.cons (FStep.off_ 33 54 false rfl rfl (fun u w hd => .inl (congrArg some (After.get (V := vOf _) hd 2 _ rfl rfl))) (fun _ => rfl) (fun _ => rfl)) ?_
            refine FSteps.cons (FStep.value (.bool true) (fun u w hd => wanted_on 27 48 true rfl rfl (congrArg some (hd.get 2 _ rfl rfl))) (fun _ _ => rfl) (fun _ => rfl) (fun u w hW hC (hd : After _ _ u w) ρ hρ => ?_)) ?_
            · have r54 : ρ (.tmp 54) = .bool true := (by rw [hρ]; exact hd.get 0 _ rfl rfl); have r63 : ρ (.tmp 63) = undef := (by rw [hρ]; exact hd.get 1 _ rfl rfl); have rc : ∀ v, ρ (.const v) = v := (by subst hρ; exact fun _ => rfl); clear hρ hd
              (go_simp; (try (first | exact wrap_in _ (by omega) (by omega) | exact HZ.out | exact HN.out | rw [if_pos HZ.out.1, if_pos HZ.out.2])))
            refine FSteps.cons (FStep.value (.bool true) (fun _ _ _ => wanted_none rfl) (fun _ _ => rfl) (fun _ => rfl) (fun u w hW hC (hd : After _ _ u w) ρ hρ => ?_)) ?_
            · have r48 : ρ (.tmp 48) = .bool true := (by rw [hρ]; exact hd.get 0 _ rfl rfl); have r64 : ρ (.tmp 64) = .bool true := (by rw [hρ]; exact hd.get 1 _ rfl rfl); have rc : ∀ v, ρ (.const v) = v := (by subst hρ; exact fun _ => rfl); clear hρ hd
              (go_simp; (try (first | exact wrap_in _ (by omega) (by omega) | exact HZ.out | exact HN.out | rw [if_pos HZ.out.1, if_pos HZ.out.2])))
            refine FSteps.cons (FStep.value (.bool true) (fun _ _ _ => wanted_none rfl) (fun _ _ => rfl) (fun _ => rfl) (fun u w hW hC (hd : After _ _ u w) ρ hρ => ?_)) ?_
            · have r65 : ρ (.tmp 65) = .bool true := (by rw [hρ]; exact hd.get 0 _ rfl rfl); clear hρ hd
              (go_simp; (try (first | exact wrap_in _ (by omega) (by omega) | exact HZ.out | exact HN.out | rw [if_pos HZ.out.1, if_pos HZ.out.2])))
            refine FSteps.cons (FStep.value (.int .i64 (n)) (fun u w hd => wanted_on 45 66 true rfl rfl (congrArg some (hd.get 0 _ rfl rfl))) (fun _ _ => rfl) (fun _ => rfl) (fun u w hW hC (hd : After _ _ u w) ρ hρ => ?_)) ?_
            · have r5 : ρ (.tmp 5) = .int .i64 (n) := (by subst hρ; rfl); clear hρ hd
              (go_simp; (try (first | exact wrap_in _ (by omega) (by omega) | exact HZ.out | exact HN.out | rw [if_pos HZ.out.1, if_pos HZ.out.2])))
            refine FSteps.cons (FStep.value (.bool true) (fun u w hd => wanted_on 45 66 true rfl rfl (congrArg some (hd.get 1 _ rfl rfl))) (fun _ _ => rfl) (fun _ => rfl) (fun u w hW hC (hd : After _ _ u w) ρ hρ => ?_)) ?_
            · have r67 : ρ (.tmp 67) = .int .i64 (n) := (by rw [hρ]; exact hd.get 0 _ rfl rfl); have rc : ∀ v, ρ (.const v) = v := (by subst hρ; exact fun _ => rfl); clear hρ hd
              (go_simp; (try (first | exact wrap_in _ (by omega) (by omega) | exact HZ.out | exact HN.out | rw [if_pos HZ.out.1, if_pos HZ.out.2])))
            refine FSteps.cons (FStep.value (.bool true) (fun _ _ _ => wanted_none rfl) (fun _ _ => rfl) (fun _ => rfl) (fun u w hW hC (hd : After _ _ u w) ρ hρ => ?_)) ?_
            · have r66 : ρ (.tmp 66) = .bool true := (by rw [hρ]; exact hd.get 0 _ rfl rfl); have r68 : ρ (.tmp 68) = .bool true := (by rw [hρ]; exact hd.get 1 _ rfl rfl); have rc : ∀ v, ρ (.const v) = v := (by subst hρ; exact fun _ => rfl); clear hρ hd
              (go_simp; (try (first | exact wrap_in _ (by omega) (by omega) | exact HZ.out | exact HN.out | rw [if_pos HZ.out.1, if_pos HZ.out.2])))
            refine FSteps.cons (FStep.value (.bool true) (fun _ _ _ => wanted_none rfl) (fun _ _ => rfl) (fun _ => rfl) (fun u w hW hC (hd : After _ _ u w) ρ hρ => ?_)) ?_
            · have r69 : ρ (.tmp 69) = .bool true := (by rw [hρ]; exact hd.get 0 _ rfl rfl); clear hρ hd
              (go_simp; (try (first | exact wrap_in _ (by omega) (by omega) | exact HZ.out | exact HN.out | rw [if_pos HZ.out.1, if_pos HZ.out.2])))
            refine FSteps.cons (FStep.value (.int .i64 (n)) (fun u w hd => wanted_on 49 70 true rfl rfl (congrArg some (hd.get 0 _ rfl rfl))) (fun _ _ => rfl) (fun _ => rfl) (fun u w hW hC (hd : After _ _ u w) ρ hρ => ?_)) ?_
            · have r5 : ρ (.tmp 5) = .int .i64 (n) := (by subst hρ; rfl); clear hρ hd
              (go_simp; (try (first | exact wrap_in _ (by omega) (by omega) | exact HZ.out | exact HN.out | rw [if_pos HZ.out.1, if_pos HZ.out.2])))
            refine FSteps.cons (FStep.value (.bool true) (fun u w hd => wanted_on 49 70 true rfl rfl (congrArg some (hd.get 1 _ rfl rfl))) (fun _ _ => rfl) (fun _ => rfl) (fun u w hW hC (hd : After _ _ u w) ρ hρ => ?_)) ?_
            · have r71 : ρ (.tmp 71) = .int .i64 (n) := (by rw [hρ]; exact hd.get 0 _ rfl rfl); have rc : ∀ v, ρ (.const v) = v := (by subst hρ; exact fun _ => rfl); clear hρ hd
              (go_simp; (try (first | exact wrap_in _ (by omega) (by omega) | exact HZ.out | exact HN.out | rw [if_pos HZ.out.1, if_pos HZ.out.2])))
            refine FSteps.cons (FStep.value (.bool true) (fun _ _ _ => wanted_none rfl) (fun _ _ => rfl) (fun _ => rfl) (fun u w hW hC (hd : After _ _ u w) ρ hρ => ?_)) ?_
            · have r70 : ρ (.tmp 70) = .bool true := (by rw [hρ]; exact hd.get 0 _ rfl rfl); have r72 : ρ (.tmp 72) = .bool true := (by rw [hρ]; exact hd.get 1 _ rfl rfl); have rc : ∀ v, ρ (.const v) = v := (by subst hρ; exact fun _ => rfl); clear hρ hd
              (go_simp; (try (first | exact wrap_in _ (by omega) (by omega) | exact HZ.out | exact HN.out | rw [if_pos HZ.out.1, if_pos HZ.out.2])))
            refine FSteps.cons (FStep.value (.bool true) (fun _ _ _ => wanted_none rfl) (fun _ _ => rfl) (fun _ => rfl) (fun u w hW hC (hd : After _ _ u w) ρ hρ => ?_)) ?_
            · have r73 : ρ (.tmp 73) = .bool true := (by rw [hρ]; exact hd.get 0 _ rfl rfl); clear hρ hd
              (go_simp; (try (first | exact wrap_in _ (by omega) (by omega) | exact HZ.out | exact HN.out | rw [if_pos HZ.out.1, if_pos HZ.out.2])))
            refine FSteps.cons (FStep.value (.agg #[.int .i64 x3, .int .i64 y3, .int .i64 x4, .int .i64 y4]) (fun u w hd => wanted_on 53 74 true rfl rfl (congrArg some (hd.get 0 _ rfl rfl))) (fun _ _ => rfl) (fun _ => rfl) (fun u w hW hC (hd : After _ _ u w) ρ hρ => ?_)) ?_
            · have r4 : ρ (.tmp 4) = .pointer (some ⟨w1.heap.size + 1, 0, none⟩) := (by subst hρ; rfl); clear hρ hd
              (go_simp; (try (first | exact wrap_in _ (by omega) (by omega) | exact HZ.out | exact HN.out | rw [if_pos HZ.out.1, if_pos HZ.out.2])))
            refine FSteps.cons (FStep.call (.int .i64 (q)) _ #[.agg #[.int .i64 x3, .int .i64 y3, .int .i64 x4, .int .i64 y4]] (fun u w hd => wanted_on 53 74 true rfl rfl (congrArg some (hd.get 1 _ rfl rfl))) (fun _ _ => rfl) (fun _ => rfl) (fun u w hW hC (hd : After _ _ u w) ρ hρ => ?_) (fun w => LengthSquare_at _ _ _ _ _ w F5.out)) ?_
            · have r75 : ρ (.tmp 75) = .agg #[.int .i64 x3, .int .i64 y3, .int .i64 x4, .int .i64 y4] := (by rw [hρ]; exact hd.get 0 _ rfl rfl); have rf : ∀ f, ρ (.func f) = .func (.func f) #[] #[] := (by subst hρ; exact fun _ => rfl); clear hρ hd
              (go_simp; (try (first | exact wrap_in _ (by omega) (by omega) | exact HZ.out | exact HN.out | rw [if_pos HZ.out.1, if_pos HZ.out.2])))
            refine FSteps.cons (FStep.value (.int .i64 (n)) (fun u w hd => wanted_on 53 74 true rfl rfl (congrArg some (hd.get 0 _ rfl rfl))) (fun _ _ => rfl) (fun _ => rfl) (fun u w hW hC (hd : After _ _ u w) ρ hρ => ?_)) ?_
            · have r5 : ρ (.tmp 5) = .int .i64 (n) := (by subst hρ; rfl); clear hρ hd
              (go_simp; (try (first | exact wrap_in _ (by omega) (by omega) | exact HZ.out | exact HN.out | rw [if_pos HZ.out.1, if_pos HZ.out.2])))
            refine FSteps.cons (FStep.value (.int .i64 (n)) (fun u w hd => wanted_on 53 74 true rfl rfl (congrArg some (hd.get 0 _ rfl rfl))) (fun _ _ => rfl) (fun _ => rfl) (fun u w hW hC (hd : After _ _ u w) ρ hρ => ?_)) ?_
            · have r5 : ρ (.tmp 5) = .int .i64 (n) := (by subst hρ; rfl); clear hρ hd
              (go_simp; (try (first | exact wrap_in _ (by omega) (by omega) | exact HZ.out | exact HN.out | rw [if_pos HZ.out.1, if_pos HZ.out.2])))
            refine FSteps.cons (FStep.value (.int .i64 (nn)) (fun u w hd => wanted_on 53 74 true rfl rfl (congrArg some (hd.get 2 _ rfl rfl))) (fun _ _ => rfl) (fun _ => rfl) (fun u w hW hC (hd : After _ _ u w) ρ hρ => ?_)) ?_
            · have r77 : ρ (.tmp 77) = .int .i64 (n) := (by rw [hρ]; exact hd.get 0 _ rfl rfl); have r78 : ρ (.tmp 78) = .int .i64 (n) := (by rw [hρ]; exact hd.get 1 _ rfl rfl); clear hρ hd
              (go_simp; (try (first | exact wrap_in _ (by omega) (by omega) | exact HZ.out | exact HN.out | rw [if_pos HZ.out.1, if_pos HZ.out.2])))
            refine FSteps.cons (FStep.value (.int .i64 (0)) (fun u w hd => wanted_on 53 74 true rfl rfl (congrArg some (hd.get 2 _ rfl rfl))) (fun _ _ => rfl) (fun _ => rfl) (fun u w hW hC (hd : After _ _ u w) ρ hρ => ?_)) ?_
            · have r76 : ρ (.tmp 76) = .int .i64 (q) := (by rw [hρ]; exact hd.get 0 _ rfl rfl); have r79 : ρ (.tmp 79) = .int .i64 (nn) := (by rw [hρ]; exact hd.get 1 _ rfl rfl); clear hρ hd
              (go_simp; (try (first | exact wrap_in _ (by omega) (by omega) | exact HZ.out | exact HN.out | rw [if_pos HZ.out.1, if_pos HZ.out.2])))
            refine FSteps.cons (FStep.value (.bool true) (fun u w hd => wanted_on 53 74 true rfl rfl (congrArg some (hd.get 1 _ rfl rfl))) (fun _ _ => rfl) (fun _ => rfl) (fun u w hW hC (hd : After _ _ u w) ρ hρ => ?_)) ?_
            · have r80 : ρ (.tmp 80) = .int .i64 (0) := (by rw [hρ]; exact hd.get 0 _ rfl rfl); have rc : ∀ v, ρ (.const v) = v := (by subst hρ; exact fun _ => rfl); clear hρ hd
              (go_simp; (try (first | exact wrap_in _ (by omega) (by omega) | exact HZ.out | exact HN.out | rw [if_pos HZ.out.1, if_pos HZ.out.2])))
            refine FSteps.cons (FStep.value (.bool true) (fun _ _ _ => wanted_none rfl) (fun _ _ => rfl) (fun _ => rfl) (fun u w hW hC (hd : After _ _ u w) ρ hρ => ?_)) ?_
            · have r74 : ρ (.tmp 74) = .bool true := (by rw [hρ]; exact hd.get 0 _ rfl rfl); have r81 : ρ (.tmp 81) = .bool true := (by rw [hρ]; exact hd.get 1 _ rfl rfl); have rc : ∀ v, ρ (.const v) = v := (by subst hρ; exact fun _ => rfl); clear hρ hd
              (go_simp; (try (first | exact wrap_in _ (by omega) (by omega) | exact HZ.out | exact HN.out | rw [if_pos HZ.out.1, if_pos HZ.out.2])))
            refine FSteps.cons (FStep.value (.bool true) (fun _ _ _ => wanted_none rfl) (fun _ _ => rfl) (fun _ => rfl) (fun u w hW hC (hd : After _ _ u w) ρ hρ => ?_)) ?_
            · have r82 : ρ (.tmp 82) = .bool true := (by rw [hρ]; exact hd.get 0 _ rfl rfl); clear hρ hd
              (go_simp; (try (first | exact wrap_in _ (by omega) (by omega) | exact HZ.out | exact HN.out | rw [if_pos HZ.out.1, if_pos HZ.out.2])))
            refine FSteps.cons (FStep.value (.agg #[.int .i64 x4, .int .i64 y4, .int .i64 x3, .int .i64 y3]) (fun u w hd => wanted_on 62 83 true rfl rfl (congrArg some (hd.get 0 _ rfl rfl))) (fun _ _ => rfl) (fun _ => rfl) (fun u w hW hC (hd : After _ _ u w) ρ hρ => ?_)) ?_
            · have r6 : ρ (.tmp 6) = .pointer (some ⟨wz.heap.size, 0, none⟩) := (by subst hρ; rfl); clear hρ hd
              (go_simp; (try (first | exact wrap_in _ (by omega) (by omega) | exact HZ.out | exact HN.out | rw [if_pos HZ.out.1, if_pos HZ.out.2])))
            refine FSteps.cons (FStep.call (.int .i64 (n)) _ #[.agg #[.int .i64 x4, .int .i64 y4, .int .i64 x3, .int .i64 y3]] (fun u w hd => wanted_on 62 83 true rfl rfl (congrArg some (hd.get 1 _ rfl rfl))) (fun _ _ => rfl) (fun _ => rfl) (fun u w hW hC (hd : After _ _ u w) ρ hρ => ?_) (fun w => LatticeSteps_at _ _ _ _ _ w F6.out)) ?_
            · have r84 : ρ (.tmp 84) = .agg #[.int .i64 x4, .int .i64 y4, .int .i64 x3, .int .i64 y3] := (by rw [hρ]; exact hd.get 0 _ rfl rfl); have rf : ∀ f, ρ (.func f) = .func (.func f) #[] #[] := (by subst hρ; exact fun _ => rfl); clear hρ hd
              (go_simp; (try (first | exact wrap_in _ (by omega) (by omega) | exact HZ.out | exact HN.out | rw [if_pos HZ.out.1, if_pos HZ.out.2])))
            refine FSteps.cons (FStep.value (.int .i64 (n)) (fun u w hd => wanted_on 62 83 true rfl rfl (congrArg some (hd.get 0 _ rfl rfl))) (fun _ _ => rfl) (fun _ => rfl) (fun u w hW hC (hd : After _ _ u w) ρ hρ => ?_)) ?_
            · have r5 : ρ (.tmp 5) = .int .i64 (n) := (by subst hρ; rfl); clear hρ hd
              (go_simp; (try (first | exact wrap_in _ (by omega) (by omega) | exact HZ.out | exact HN.out | rw [if_pos HZ.out.1, if_pos HZ.out.2])))
            refine FSteps.cons (FStep.value (.bool true) (fun u w hd => wanted_on 62 83 true rfl rfl (congrArg some (hd.get 2 _ rfl rfl))) (fun _ _ => rfl) (fun _ => rfl) (fun u w hW hC (hd : After _ _ u w) ρ hρ => ?_)) ?_
            · have r85 : ρ (.tmp 85) = .int .i64 (n) := (by rw [hρ]; exact hd.get 0 _ rfl rfl); have r86 : ρ (.tmp 86) = .int .i64 (n) := (by rw [hρ]; exact hd.get 1 _ rfl rfl); clear hρ hd
              (go_simp; (try (first | exact wrap_in _ (by omega) (by omega) | exact HZ.out | exact HN.out | rw [if_pos HZ.out.1, if_pos HZ.out.2])))
            refine FSteps.cons (FStep.value (.bool true) (fun _ _ _ => wanted_none rfl) (fun _ _ => rfl) (fun _ => rfl) (fun u w hW hC (hd : After _ _ u w) ρ hρ => ?_)) ?_
            · have r83 : ρ (.tmp 83) = .bool true := (by rw [hρ]; exact hd.get 0 _ rfl rfl); have r87 : ρ (.tmp 87) = .bool true := (by rw [hρ]; exact hd.get 1 _ rfl rfl); have rc : ∀ v, ρ (.const v) = v := (by subst hρ; exact fun _ => rfl); clear hρ hd
              (go_simp; (try (first | exact wrap_in _ (by omega) (by omega) | exact HZ.out | exact HN.out | rw [if_pos HZ.out.1, if_pos HZ.out.2])))
            refine FSteps.cons (FStep.value (.bool true) (fun _ _ _ => wanted_none rfl) (fun _ _ => rfl) (fun _ => rfl) (fun u w hW hC (hd : After _ _ u w) ρ hρ => ?_)) ?_
            · have r88 : ρ (.tmp 88) = .bool true := (by rw [hρ]; exact hd.get 0 _ rfl rfl); clear hρ hd
              (go_simp; (try (first | exact wrap_in _ (by omega) (by omega) | exact HZ.out | exact HN.out | rw [if_pos HZ.out.1, if_pos HZ.out.2])))
            refine FSteps.cons (FStep.value (.agg #[.int .i64 x1, .int .i64 y1, .int .i64 x2, .int .i64 y2]) (fun u w hd => wanted_on 68 89 true rfl rfl (congrArg some (hd.get 0 _ rfl rfl))) (fun _ _ => rfl) (fun _ => rfl) (fun u w hW hC (hd : After _ _ u w) ρ hρ => ?_)) ?_
            · have r3 : ρ (.tmp 3) = .pointer (some ⟨w1.heap.size, 0, none⟩) := (by subst hρ; rfl); clear hρ hd
              (go_simp; (try (first | exact wrap_in _ (by omega) (by omega) | exact HZ.out | exact HN.out | rw [if_pos HZ.out.1, if_pos HZ.out.2])))
            refine FSteps.cons (FStep.value (.agg #[.int .i64 x4, .int .i64 y4, .int .i64 x3, .int .i64 y3]) (fun u w hd => wanted_on 68 89 true rfl rfl (congrArg some (hd.get 0 _ rfl rfl))) (fun _ _ => rfl) (fun _ => rfl) (fun u w hW hC (hd : After _ _ u w) ρ hρ => ?_)) ?_
            · have r6 : ρ (.tmp 6) = .pointer (some ⟨wz.heap.size, 0, none⟩) := (by subst hρ; rfl); clear hρ hd
              (go_simp; (try (first | exact wrap_in _ (by omega) (by omega) | exact HZ.out | exact HN.out | rw [if_pos HZ.out.1, if_pos HZ.out.2])))
            refine FSteps.cons (FStep.call (.bool false) _ #[.agg #[.int .i64 x1, .int .i64 y1, .int .i64 x2, .int .i64 y2], .agg #[.int .i64 x4, .int .i64 y4, .int .i64 x3, .int .i64 y3]] (fun u w hd => wanted_on 68 89 true rfl rfl (congrArg some (hd.get 2 _ rfl rfl))) (fun _ _ => rfl) (fun _ => rfl) (fun u w hW hC (hd : After _ _ u w) ρ hρ => ?_) (fun w => DoCross_at _ _ _ _ _ _ _ _ _ w F7.out)) ?_
            · have r90 : ρ (.tmp 90) = .agg #[.int .i64 x1, .int .i64 y1, .int .i64 x2, .int .i64 y2] := (by rw [hρ]; exact hd.get 0 _ rfl rfl); have r91 : ρ (.tmp 91) = .agg #[.int .i64 x4, .int .i64 y4, .int .i64 x3, .int .i64 y3] := (by rw [hρ]; exact hd.get 1 _ rfl rfl); have rf : ∀ f, ρ (.func f) = .func (.func f) #[] #[] := (by subst hρ; exact fun _ => rfl); clear hρ hd
              (go_simp; (try (first | exact wrap_in _ (by omega) (by omega) | exact HZ.out | exact HN.out | rw [if_pos HZ.out.1, if_pos HZ.out.2])))
            refine FSteps.cons (FStep.value (.agg #[.int .i64 x1, .int .i64 y1, .int .i64 x2, .int .i64 y2]) (fun u w hd => wanted_on 68 89 true rfl rfl (congrArg some (hd.get 0 _ rfl rfl))) (fun _ _ => rfl) (fun _ => rfl) (fun u w hW hC (hd : After _ _ u w) ρ hρ => ?_)) ?_
            · have r3 : ρ (.tmp 3) = .pointer (some ⟨w1.heap.size, 0, none⟩) := (by subst hρ; rfl); clear hρ hd
              (go_simp; (try (first | exact wrap_in _ (by omega) (by omega) | exact HZ.out | exact HN.out | rw [if_pos HZ.out.1, if_pos HZ.out.2])))
            refine FSteps.cons (FStep.value (.agg #[.int .i64 x3, .int .i64 y3, .int .i64 x4, .int .i64 y4]) (fun u w hd => wanted_on 68 89 true rfl rfl (congrArg some (hd.get 0 _ rfl rfl))) (fun _ _ => rfl) (fun _ => rfl) (fun u w hW hC (hd : After _ _ u w) ρ hρ => ?_)) ?_
            · have r4 : ρ (.tmp 4) = .pointer (some ⟨w1.heap.size + 1, 0, none⟩) := (by subst hρ; rfl); clear hρ hd
              (go_simp; (try (first | exact wrap_in _ (by omega) (by omega) | exact HZ.out | exact HN.out | rw [if_pos HZ.out.1, if_pos HZ.out.2])))
            refine FSteps.cons (FStep.call (.bool false) _ #[.agg #[.int .i64 x1, .int .i64 y1, .int .i64 x2, .int .i64 y2], .agg #[.int .i64 x3, .int .i64 y3, .int .i64 x4, .int .i64 y4]] (fun u w hd => wanted_on 68 89 true rfl rfl (congrArg some (hd.get 3 _ rfl rfl))) (fun _ _ => rfl) (fun _ => rfl) (fun u w hW hC (hd : After _ _ u w) ρ hρ => ?_) (fun w => DoCross_at _ _ _ _ _ _ _ _ _ w F1.out)) ?_
            · have r93 : ρ (.tmp 93) = .agg #[.int .i64 x1, .int .i64 y1, .int .i64 x2, .int .i64 y2] := (by rw [hρ]; exact hd.get 0 _ rfl rfl); have r94 : ρ (.tmp 94) = .agg #[.int .i64 x3, .int .i64 y3, .int .i64 x4, .int .i64 y4] := (by rw [hρ]; exact hd.get 1 _ rfl rfl); have rf : ∀ f, ρ (.func f) = .func (.func f) #[] #[] := (by subst hρ; exact fun _ => rfl); clear hρ hd
              (go_simp; (try (first | exact wrap_in _ (by omega) (by omega) | exact HZ.out | exact HN.out | rw [if_pos HZ.out.1, if_pos HZ.out.2])))
            refine FSteps.cons (FStep.value (.bool true) (fun u w hd => wanted_on 68 89 true rfl rfl (congrArg some (hd.get 2 _ rfl rfl))) (fun _ _ => rfl) (fun _ => rfl) (fun u w hW hC (hd : After _ _ u w) ρ hρ => ?_)) ?_
            · have r92 : ρ (.tmp 92) = .bool false := (by rw [hρ]; exact hd.get 0 _ rfl rfl); have r95 : ρ (.tmp 95) = .bool false := (by rw [hρ]; exact hd.get 1 _ rfl rfl); clear hρ hd
              (go_simp; (try (first | exact wrap_in _ (by omega) (by omega) | exact HZ.out | exact HN.out | rw [if_pos HZ.out.1, if_pos HZ.out.2])))
            refine FSteps.cons (FStep.value (.bool true) (fun _ _ _ => wanted_none rfl) (fun _ _ => rfl) (fun _ => rfl) (fun u w hW hC (hd : After _ _ u w) ρ hρ => ?_)) ?_
            · have r89 : ρ (.tmp 89) = .bool true := (by rw [hρ]; exact hd.get 0 _ rfl rfl); have r96 : ρ (.tmp 96) = .bool true := (by rw [hρ]; exact hd.get 1 _ rfl rfl); have rc : ∀ v, ρ (.const v) = v := (by subst hρ; exact fun _ => rfl); clear hρ hd
              (go_simp; (try (first | exact wrap_in _ (by omega) (by omega) | exact HZ.out | exact HN.out | rw [if_pos HZ.out.1, if_pos HZ.out.2])))
            refine FSteps.cons (FStep.value (.bool true) (fun _ _ _ => wanted_none rfl) (fun _ _ => rfl) (fun _ => rfl) (fun u w hW hC (hd : After _ _ u w) ρ hρ => ?_)) ?_
            · have r97 : ρ (.tmp 97) = .bool true := (by rw [hρ]; exact hd.get 0 _ rfl rfl); clear hρ hd
              (go_simp; (try (first | exact wrap_in _ (by omega) (by omega) | exact HZ.out | exact HN.out | rw [if_pos HZ.out.1, if_pos HZ.out.2])))
            refine FSteps.cons (FStep.value (.agg #[.int .i64 x3, .int .i64 y3, .int .i64 x4, .int .i64 y4]) (fun u w hd => wanted_on 77 98 true rfl rfl (congrArg some (hd.get 0 _ rfl rfl))) (fun _ _ => rfl) (fun _ => rfl) (fun u w hW hC (hd : After _ _ u w) ρ hρ => ?_)) ?_
            · have r4 : ρ (.tmp 4) = .pointer (some ⟨w1.heap.size + 1, 0, none⟩) := (by subst hρ; rfl); clear hρ hd
              (go_simp; (try (first | exact wrap_in _ (by omega) (by omega) | exact HZ.out | exact HN.out | rw [if_pos HZ.out.1, if_pos HZ.out.2])))
            refine FSteps.cons (FStep.value (.pointer (some ⟨w1.heap.size + 1, 0, none⟩)) (fun u w hd => wanted_on 77 98 true rfl rfl (congrArg some (hd.get 0 _ rfl rfl))) (fun _ _ => rfl) (fun _ => rfl) (fun u w hW hC (hd : After _ _ u w) ρ hρ => ?_)) ?_
            · have r4 : ρ (.tmp 4) = .pointer (some ⟨w1.heap.size + 1, 0, none⟩) := (by subst hρ; rfl); clear hρ hd
              (go_simp; (try (first | exact wrap_in _ (by omega) (by omega) | exact HZ.out | exact HN.out | rw [if_pos HZ.out.1, if_pos HZ.out.2])))
            refine FSteps.cons (FStep.value (.agg #[.int .i64 x3, .int .i64 y3]) (fun u w hd => wanted_on 77 98 true rfl rfl (congrArg some (hd.get 1 _ rfl rfl))) (fun _ _ => rfl) (fun _ => rfl) (fun u w hW hC (hd : After _ _ u w) ρ hρ => ?_)) ?_
            · have r100 : ρ (.tmp 100) = .pointer (some ⟨w1.heap.size + 1, 0, none⟩) := (by rw [hρ]; exact hd.get 0 _ rfl rfl); clear hρ hd
              (go_simp; (try (first | exact wrap_in _ (by omega) (by omega) | exact HZ.out | exact HN.out | rw [if_pos HZ.out.1, if_pos HZ.out.2])))
            refine FSteps.cons (FStep.call (.bool true) _ #[.agg #[.int .i64 x3, .int .i64 y3, .int .i64 x4, .int .i64 y4], .agg #[.int .i64 x3, .int .i64 y3]] (fun u w hd => wanted_on 77 98 true rfl rfl (congrArg some (hd.get 2 _ rfl rfl))) (fun _ _ => rfl) (fun _ => rfl) (fun u w hW hC (hd : After _ _ u w) ρ hρ => ?_) (fun w => IsOnWall_at _ _ _ _ _ _ _ w F8.out)) ?_
            · have r99 : ρ (.tmp 99) = .agg #[.int .i64 x3, .int .i64 y3, .int .i64 x4, .int .i64 y4] := (by rw [hρ]; exact hd.get 0 _ rfl rfl); have r101 : ρ (.tmp 101) = .agg #[.int .i64 x3, .int .i64 y3] := (by rw [hρ]; exact hd.get 1 _ rfl rfl); have rf : ∀ f, ρ (.func f) = .func (.func f) #[] #[] := (by subst hρ; exact fun _ => rfl); clear hρ hd
              (go_simp; (try (first | exact wrap_in _ (by omega) (by omega) | exact HZ.out | exact HN.out | rw [if_pos HZ.out.1, if_pos HZ.out.2])))
            refine FSteps.cons (FStep.value (.bool true) (fun _ _ _ => wanted_none rfl) (fun _ _ => rfl) (fun _ => rfl) (fun u w hW hC (hd : After _ _ u w) ρ hρ => ?_)) ?_
            · have r98 : ρ (.tmp 98) = .bool true := (by rw [hρ]; exact hd.get 0 _ rfl rfl); have r102 : ρ (.tmp 102) = .bool true := (by rw [hρ]; exact hd.get 1 _ rfl rfl); have rc : ∀ v, ρ (.const v) = v := (by subst hρ; exact fun _ => rfl); clear hρ hd
              (go_simp; (try (first | exact wrap_in _ (by omega) (by omega) | exact HZ.out | exact HN.out | rw [if_pos HZ.out.1, if_pos HZ.out.2])))
            refine FSteps.cons (FStep.value (.bool true) (fun _ _ _ => wanted_none rfl) (fun _ _ => rfl) (fun _ => rfl) (fun u w hW hC (hd : After _ _ u w) ρ hρ => ?_)) ?_
            · have r103 : ρ (.tmp 103) = .bool true := (by rw [hρ]; exact hd.get 0 _ rfl rfl); clear hρ hd
              (go_simp; (try (first | exact wrap_in _ (by omega) (by omega) | exact HZ.out | exact HN.out | rw [if_pos HZ.out.1, if_pos HZ.out.2])))
            exact FSteps.nil
          case hV1 => (simp only [List.forall_mem_cons]; simp [stable_is])
          case fin1 =>
            intro u w2 hW2 hC2 hd
            have e83 : u 83 = .bool true := AllV.get _ 0 83 u w2 _ hd rfl
            clear hd
            refine then_normal ?_
            go_step
            refine wp_ret ?_
            refine bodyPost_ret (results_tmp rfl _ _ _) rfl ?_
            refine ⟨congrArg Ending.returned e83, Below.trans hx1 (Below.mono (show Ext w1 _ by (repeat (first | exact Ext.refl _ | assumption | apply Ext.alloc | apply Ext.drew | apply Ext.drewN | (refine Ext.trans ?_ (by assumption))))).below hx1.size)⟩
        · go_wp2_with fail
          refine (LatticeSteps_at _ _ _ _ _ _ F9.out).mono ?_
          rintro e wz ⟨rfl, hbt⟩
          have hcc := HB.out wz (by (repeat (first | exact Ext.refl _ | assumption | apply Ext.alloc | apply Ext.drew | apply Ext.drewN | (refine Ext.trans ?_ (by assumption)))))
          have HX : Hid (∀ w', Ext (wz.alloc (.cells #[.int .i64 x4, .int .i64 y4, .int .i64 x3, .int .i64 y3] 32)) w' → w'.cell? ⟨wz.heap.size, 0, none⟩ = some (.int .i64 x4) ∧ w'.cell? ⟨wz.heap.size, 1, none⟩ = some (.int .i64 y4) ∧ w'.cell? ⟨wz.heap.size, 2, none⟩ = some (.int .i64 x3) ∧ w'.cell? ⟨wz.heap.size, 3, none⟩ = some (.int .i64 y3) ∧ wz.heap.size < w'.heap.size) := fun w' hx => by
            and_intros <;> (first | (have hz := hx.size; simp at hz; omega) | ((first | rw [hx.cells _ _ (by first | (simp; done) | (simp; omega))] | rw [hx.frozens _ _ (by first | (simp; done) | (simp; omega))]); (first | (simp [go_sem]; done) | (simp [go_sem, World.cell?_alloc_past]; done) | (simp [go_sem, World.frozen?]; done))))
          go_wp2
          simp only [List.append_eq, List.cons_append, List.nil_append]
          refine wp_flow (by kernel_rfl) (by kernel_rfl) (fun u => ⟨#[_, _, u 83, _, _, _, _, _, _, _, _, _, _, _, _, _, _, _, _, _, _, u 0, u 1, u 2, u 3, u 4, u 5, u 6, u 7, u 8, u 9, u 10, u 11, u 12, u 13, u 14, u 15, u 16, u 17, u 18, u 19, u 20, u 21, u 22, u 23, u 24, u 25, u 26, u 27, u 28, u 29, u 30, u 31, u 32, u 33, u 34, u 35, u 36, u 37, u 38, u 39, u 40, u 41, u 42, u 43, u 44, u 45, u 46, u 47, u 48, u 49, u 50, u 51, u 52, u 53, u 54, u 55, u 56, u 57, u 58, u 59, u 60, u 61, u 62, u 63, u 64, u 65, u 66, u 67, u 68, u 69, u 70, u 71, u 72, u 73, u 74, u 75, u 76, u 77, u 78, u 79, u 80, u 81, u 82], _⟩) (fun i => List.getD [_, _, _, _, _, _, _, _, _, _, _, _, _, _, _, _, _, _, _, _, _, _, _, _, _, _, _, _, _, _, _, _, _, _, _, _, _, _, _, _, _, _, _, _, _, _, _, _, _, _, _, _, _, _, _, _, _, _, _, _, _, _, _, _, _, _, _, _, _, _, _, _, _, _, _, _, _, _, _, _, _, _, _, _] i undef) [is (.agg #[.int .i64 x1, .int .i64 y1, .int .i64 x2, .int .i64 y2]), is (.agg #[.int .i64 x3, .int .i64 y3, .int .i64 x4, .int .i64 y4]), is (.bool false), is (.agg #[.int .i64 x3, .int .i64 y3, .int .i64 x4, .int .i64 y4]), is (.agg #[.int .i64 x1, .int .i64 y1, .int .i64 x2, .int .i64 y2]), is (.bool false), is (.bool true), is (.bool true), is (.agg #[.int .i64 x1, .int .i64 y1, .int .i64 x2, .int .i64 y2]), is (.agg #[.int .i64 x3, .int .i64 y3, .int .i64 x4, .int .i64 y4]), is (.bool true), is (.agg #[.int .i64 x3, .int .i64 y3, .int .i64 x4, .int .i64 y4]), is (.agg #[.int .i64 x1, .int .i64 y1, .int .i64 x2, .int .i64 y2]), is (.bool true), is (.bool true), is (.bool true), is (.bool true), is (.agg #[.int .i64 x1, .int .i64 y1, .int .i64 x2, .int .i64 y2]), is (.agg #[.int .i64 x3, .int .i64 y3, .int .i64 x4, .int .i64 y4]), is (.bool false), is (.bool true), is (.bool true), is (undef), is (undef), is (undef), is (.bool true), is (.bool true), is (.bool true), is (.pointer (some ⟨w1.heap.size, 2, none⟩)), is (.agg #[.int .i64 x2, .int .i64 y2]), is (.pointer (some ⟨w1.heap.size + 1, 0, none⟩)), is (.agg #[.int .i64 x3, .int .i64 y3]), is (.bool true), is (.bool true), is (undef), is (undef), is (undef), is (undef), is (undef), is (undef), is (undef), is (undef), is (undef), is (.bool true), is (.bool true), is (.bool true), is (.int .i64 (n)), is (.bool true), is (.bool true), is (.bool true), is (.int .i64 (n)), is (.bool true), is (.bool true), is (.bool true), is (.agg #[.int .i64 x3, .int .i64 y3, .int .i64 x4, .int .i64 y4]), is (.int .i64 (q)), is (.int .i64 (n)), is (.int .i64 (n)), is (.int .i64 (nn)), is (.int .i64 (0)), is (.bool true), is (.bool true), is (.bool true), is (.agg #[.int .i64 x4, .int .i64 y4, .int .i64 x3, .int .i64 y3]), is (.int .i64 (n)), is (.int .i64 (n)), is (.bool true), is (.bool true), is (.bool true), is (.agg #[.int .i64 x1, .int .i64 y1, .int .i64 x2, .int .i64 y2]), is (.agg #[.int .i64 x4, .int .i64 y4, .int .i64 x3, .int .i64 y3]), is (.bool false), is (.agg #[.int .i64 x1, .int .i64 y1, .int .i64 x2, .int .i64 y2]), is (.agg #[.int .i64 x3, .int .i64 y3, .int .i64 x4, .int .i64 y4]), is (.bool false), is (.bool true), is (.bool true), is (.bool true), is (.agg #[.int .i64 x3, .int .i64 y3, .int .i64 x4, .int .i64 y4]), is (.pointer (some ⟨w1.heap.size + 1, 0, none⟩)), is (.agg #[.int .i64 x3, .int .i64 y3]), is (.bool true), is (.bool true), is (.bool true)] (fun w' => w'.cell? ⟨w1.heap.size, 0, none⟩ = some (.int .i64 x1) ∧ w'.cell? ⟨w1.heap.size, 1, none⟩ = some (.int .i64 y1) ∧ w'.cell? ⟨w1.heap.size, 2, none⟩ = some (.int .i64 x2) ∧ w'.cell? ⟨w1.heap.size, 3, none⟩ = some (.int .i64 y2) ∧ w1.heap.size < w'.heap.size ∧ w'.cell? ⟨w1.heap.size + 1, 0, none⟩ = some (.int .i64 x3) ∧ w'.cell? ⟨w1.heap.size + 1, 1, none⟩ = some (.int .i64 y3) ∧ w'.cell? ⟨w1.heap.size + 1, 2, none⟩ = some (.int .i64 x4) ∧ w'.cell? ⟨w1.heap.size + 1, 3, none⟩ = some (.int .i64 y4) ∧ w1.heap.size + 1 < w'.heap.size ∧ w'.cell? ⟨wz.heap.size, 0, none⟩ = some (.int .i64 x4) ∧ w'.cell? ⟨wz.heap.size, 1, none⟩ = some (.int .i64 y4) ∧ w'.cell? ⟨wz.heap.size, 2, none⟩ = some (.int .i64 x3) ∧ w'.cell? ⟨wz.heap.size, 3, none⟩ = some (.int .i64 y3) ∧ wz.heap.size < w'.heap.size) _ rfl ?hC2 ?hs2 ?hV2 ?fin2
          case hC2 => exact fun w' hx => (by have hq : Ext _ w' := hx; have hf0 := HB.out w' (by (repeat (first | exact Ext.refl _ | assumption | apply Ext.alloc | apply Ext.drew | apply Ext.drewN | (refine Ext.trans ?_ (by assumption))))); have hf1 := HX.out w' (by (repeat (first | exact Ext.refl _ | assumption | apply Ext.alloc | apply Ext.drew | apply Ext.drewN | (refine Ext.trans ?_ (by assumption))))); and_intros <;> first | exact hf0 | exact hf0.1 | exact hf0.2.1 | exact hf0.2.2.1 | exact hf0.2.2.2.1 | exact hf0.2.2.2.2.1 | exact hf0.2.2.2.2.2.1 | exact hf0.2.2.2.2.2.2.1 | exact hf0.2.2.2.2.2.2.2.1 | exact hf0.2.2.2.2.2.2.2.2.1 | exact hf0.2.2.2.2.2.2.2.2.2.1 | exact hf0.2.2.2.2.2.2.2.2.2.2.1 | exact hf0.2.2.2.2.2.2.2.2.2.2.2.1 | exact hf0.2.2.2.2.2.2.2.2.2.2.2.2.1 | exact hf0.2.2.2.2.2.2.2.2.2.2.2.2.2.1 | exact hf0.2 | exact hf0.2.2 | exact hf0.2.2.2 | exact hf0.2.2.2.2 | exact hf0.2.2.2.2.2 | exact hf0.2.2.2.2.2.2 | exact hf0.2.2.2.2.2.2.2 | exact hf0.2.2.2.2.2.2.2.2 | exact hf0.2.2.2.2.2.2.2.2.2 | exact hf0.2.2.2.2.2.2.2.2.2.2 | exact hf0.2.2.2.2.2.2.2.2.2.2.2 | exact hf0.2.2.2.2.2.2.2.2.2.2.2.2 | exact hf0.2.2.2.2.2.2.2.2.2.2.2.2.2 | exact hf1 | exact hf1.1 | exact hf1.2.1 | exact hf1.2.2.1 | exact hf1.2.2.2.1 | exact hf1.2.2.2.2.1 | exact hf1.2.2.2.2.2.1 | exact hf1.2.2.2.2.2.2.1 | exact hf1.2.2.2.2.2.2.2.1 | exact hf1.2.2.2.2.2.2.2.2.1 | exact hf1.2.2.2.2.2.2.2.2.2.1 | exact hf1.2.2.2.2.2.2.2.2.2.2.1 | exact hf1.2.2.2.2.2.2.2.2.2.2.2.1 | exact hf1.2.2.2.2.2.2.2.2.2.2.2.2.1 | exact hf1.2.2.2.2.2.2.2.2.2.2.2.2.2.1 | exact hf1.2 | exact hf1.2.2 | exact hf1.2.2.2 | exact hf1.2.2.2.2 | exact hf1.2.2.2.2.2 | exact hf1.2.2.2.2.2.2 | exact hf1.2.2.2.2.2.2.2 | exact hf1.2.2.2.2.2.2.2.2 | exact hf1.2.2.2.2.2.2.2.2.2 | exact hf1.2.2.2.2.2.2.2.2.2.2 | exact hf1.2.2.2.2.2.2.2.2.2.2.2 | exact hf1.2.2.2.2.2.2.2.2.2.2.2.2 | exact hf1.2.2.2.2.2.2.2.2.2.2.2.2.2)
          case hs2 =>
            refine FSteps.cons (FStep.value (.agg #[.int .i64 x1, .int .i64 y1, .int .i64 x2, .int .i64 y2]) (fun _ _ _ => wanted_none rfl) (fun _ _ => rfl) (fun _ => rfl) (fun u w hW hC (hd : After _ _ u w) ρ hρ => ?_)) ?_
            · have r3 : ρ (.tmp 3) = .pointer (some ⟨w1.heap.size, 0, none⟩) := (by subst hρ; rfl); clear hρ hd
              (go_simp; (try (first | exact wrap_in _ (by omega) (by omega) | exact HZ.out | exact HN.out | rw [if_pos HZ.out.1, if_pos HZ.out.2])))
            refine FSteps.cons (FStep.value (.agg #[.int .i64 x3, .int .i64 y3, .int .i64 x4, .int .i64 y4]) (fun _ _ _ => wanted_none rfl) (fun _ _ => rfl) (fun _ => rfl) (fun u w hW hC (hd : After _ _ u w) ρ hρ => ?_)) ?_
            · have r4 : ρ (.tmp 4) = .pointer (some ⟨w1.heap.size + 1, 0, none⟩) := (by subst hρ; rfl); clear hρ hd
              (go_simp; (try (first | exact wrap_in _ (by omega) (by omega) | exact HZ.out | exact HN.out | rw [if_pos HZ.out.1, if_pos HZ.out.2])))
            refine FSteps.cons (FStep.call (.bool false) _ #[.agg #[.int .i64 x1, .int .i64 y1, .int .i64 x2, .int .i64 y2], .agg #[.int .i64 x3, .int .i64 y3, .int .i64 x4, .int .i64 y4]] (fun _ _ _ => wanted_none rfl) (fun _ _ => rfl) (fun _ => rfl) (fun u w hW hC (hd : After _ _ u w) ρ hρ => ?_) (fun w => DoCross_at _ _ _ _ _ _ _ _ _ w F1.out)) ?_
            · have r21 : ρ (.tmp 21) = .agg #[.int .i64 x1, .int .i64 y1, .int .i64 x2, .int .i64 y2] := (by rw [hρ]; exact hd.get 0 _ rfl rfl); have r22 : ρ (.tmp 22) = .agg #[.int .i64 x3, .int .i64 y3, .int .i64 x4, .int .i64 y4] := (by rw [hρ]; exact hd.get 1 _ rfl rfl); have rf : ∀ f, ρ (.func f) = .func (.func f) #[] #[] := (by subst hρ; exact fun _ => rfl); clear hρ hd
              (go_simp; (try (first | exact wrap_in _ (by omega) (by omega) | exact HZ.out | exact HN.out | rw [if_pos HZ.out.1, if_pos HZ.out.2])))
            refine FSteps.cons (FStep.value (.agg #[.int .i64 x3, .int .i64 y3, .int .i64 x4, .int .i64 y4]) (fun _ _ _ => wanted_none rfl) (fun _ _ => rfl) (fun _ => rfl) (fun u w hW hC (hd : After _ _ u w) ρ hρ => ?_)) ?_
            · have r4 : ρ (.tmp 4) = .pointer (some ⟨w1.heap.size + 1, 0, none⟩) := (by subst hρ; rfl); clear hρ hd
              (go_simp; (try (first | exact wrap_in _ (by omega) (by omega) | exact HZ.out | exact HN.out | rw [if_pos HZ.out.1, if_pos HZ.out.2])))
            refine FSteps.cons (FStep.value (.agg #[.int .i64 x1, .int .i64 y1, .int .i64 x2, .int .i64 y2]) (fun _ _ _ => wanted_none rfl) (fun _ _ => rfl) (fun _ => rfl) (fun u w hW hC (hd : After _ _ u w) ρ hρ => ?_)) ?_
            · have r3 : ρ (.tmp 3) = .pointer (some ⟨w1.heap.size, 0, none⟩) := (by subst hρ; rfl); clear hρ hd
              (go_simp; (try (first | exact wrap_in _ (by omega) (by omega) | exact HZ.out | exact HN.out | rw [if_pos HZ.out.1, if_pos HZ.out.2])))
            refine FSteps.cons (FStep.call (.bool false) _ #[.agg #[.int .i64 x3, .int .i64 y3, .int .i64 x4, .int .i64 y4], .agg #[.int .i64 x1, .int .i64 y1, .int .i64 x2, .int .i64 y2]] (fun _ _ _ => wanted_none rfl) (fun _ _ => rfl) (fun _ => rfl) (fun u w hW hC (hd : After _ _ u w) ρ hρ => ?_) (fun w => DoCross_at _ _ _ _ _ _ _ _ _ w F2.out)) ?_
            · have r24 : ρ (.tmp 24) = .agg #[.int .i64 x3, .int .i64 y3, .int .i64 x4, .int .i64 y4] := (by rw [hρ]; exact hd.get 0 _ rfl rfl); have r25 : ρ (.tmp 25) = .agg #[.int .i64 x1, .int .i64 y1, .int .i64 x2, .int .i64 y2] := (by rw [hρ]; exact hd.get 1 _ rfl rfl); have rf : ∀ f, ρ (.func f) = .func (.func f) #[] #[] := (by subst hρ; exact fun _ => rfl); clear hρ hd
              (go_simp; (try (first | exact wrap_in _ (by omega) (by omega) | exact HZ.out | exact HN.out | rw [if_pos HZ.out.1, if_pos HZ.out.2])))
            refine FSteps.cons (FStep.value (.bool true) (fun _ _ _ => wanted_none rfl) (fun _ _ => rfl) (fun _ => rfl) (fun u w hW hC (hd : After _ _ u w) ρ hρ => ?_)) ?_
            · have r23 : ρ (.tmp 23) = .bool false := (by rw [hρ]; exact hd.get 0 _ rfl rfl); have r26 : ρ (.tmp 26) = .bool false := (by rw [hρ]; exact hd.get 1 _ rfl rfl); clear hρ hd
              (go_simp; (try (first | exact wrap_in _ (by omega) (by omega) | exact HZ.out | exact HN.out | rw [if_pos HZ.out.1, if_pos HZ.out.2])))
            refine FSteps.cons (FStep.value (.bool true) (fun _ _ _ => wanted_none rfl) (fun _ _ => rfl) (fun _ => rfl) (fun u w hW hC (hd : After _ _ u w) ρ hρ => ?_)) ?_
            · have r27 : ρ (.tmp 27) = .bool true := (by rw [hρ]; exact hd.get 0 _ rfl rfl); clear hρ hd
              (go_simp; (try (first | exact wrap_in _ (by omega) (by omega) | exact HZ.out | exact HN.out | rw [if_pos HZ.out.1, if_pos HZ.out.2])))
            refine FSteps.cons (FStep.value (.agg #[.int .i64 x1, .int .i64 y1, .int .i64 x2, .int .i64 y2]) (fun u w hd => wanted_on 7 28 true rfl rfl (congrArg some (hd.get 0 _ rfl rfl))) (fun _ _ => rfl) (fun _ => rfl) (fun u w hW hC (hd : After _ _ u w) ρ hρ => ?_)) ?_
            · have r3 : ρ (.tmp 3) = .pointer (some ⟨w1.heap.size, 0, none⟩) := (by subst hρ; rfl); clear hρ hd
              (go_simp; (try (first | exact wrap_in _ (by omega) (by omega) | exact HZ.out | exact HN.out | rw [if_pos HZ.out.1, if_pos HZ.out.2])))
            refine FSteps.cons (FStep.value (.agg #[.int .i64 x3, .int .i64 y3, .int .i64 x4, .int .i64 y4]) (fun u w hd => wanted_on 7 28 true rfl rfl (congrArg some (hd.get 0 _ rfl rfl))) (fun _ _ => rfl) (fun _ => rfl) (fun u w hW hC (hd : After _ _ u w) ρ hρ => ?_)) ?_
            · have r4 : ρ (.tmp 4) = .pointer (some ⟨w1.heap.size + 1, 0, none⟩) := (by subst hρ; rfl); clear hρ hd
              (go_simp; (try (first | exact wrap_in _ (by omega) (by omega) | exact HZ.out | exact HN.out | rw [if_pos HZ.out.1, if_pos HZ.out.2])))
            refine FSteps.cons (FStep.call (.bool true) _ #[.agg #[.int .i64 x1, .int .i64 y1, .int .i64 x2, .int .i64 y2], .agg #[.int .i64 x3, .int .i64 y3, .int .i64 x4, .int .i64 y4]] (fun u w hd => wanted_on 7 28 true rfl rfl (congrArg some (hd.get 2 _ rfl rfl))) (fun _ _ => rfl) (fun _ => rfl) (fun u w hW hC (hd : After _ _ u w) ρ hρ => ?_) (fun w => DoMeet_at _ _ _ _ _ _ _ _ _ w F3.out)) ?_
            · have r29 : ρ (.tmp 29) = .agg #[.int .i64 x1, .int .i64 y1, .int .i64 x2, .int .i64 y2] := (by rw [hρ]; exact hd.get 0 _ rfl rfl); have r30 : ρ (.tmp 30) = .agg #[.int .i64 x3, .int .i64 y3, .int .i64 x4, .int .i64 y4] := (by rw [hρ]; exact hd.get 1 _ rfl rfl); have rf : ∀ f, ρ (.func f) = .func (.func f) #[] #[] := (by subst hρ; exact fun _ => rfl); clear hρ hd
              (go_simp; (try (first | exact wrap_in _ (by omega) (by omega) | exact HZ.out | exact HN.out | rw [if_pos HZ.out.1, if_pos HZ.out.2])))
            refine FSteps.cons (FStep.value (.agg #[.int .i64 x3, .int .i64 y3, .int .i64 x4, .int .i64 y4]) (fun u w hd => wanted_on 7 28 true rfl rfl (congrArg some (hd.get 0 _ rfl rfl))) (fun _ _ => rfl) (fun _ => rfl) (fun u w hW hC (hd : After _ _ u w) ρ hρ => ?_)) ?_
            · have r4 : ρ (.tmp 4) = .pointer (some ⟨w1.heap.size + 1, 0, none⟩) := (by subst hρ; rfl); clear hρ hd
              (go_simp; (try (first | exact wrap_in _ (by omega) (by omega) | exact HZ.out | exact HN.out | rw [if_pos HZ.out.1, if_pos HZ.out.2])))
            refine FSteps.cons (FStep.value (.agg #[.int .i64 x1, .int .i64 y1, .int .i64 x2, .int .i64 y2]) (fun u w hd => wanted_on 7 28 true rfl rfl (congrArg some (hd.get 0 _ rfl rfl))) (fun _ _ => rfl) (fun _ => rfl) (fun u w hW hC (hd : After _ _ u w) ρ hρ => ?_)) ?_
            · have r3 : ρ (.tmp 3) = .pointer (some ⟨w1.heap.size, 0, none⟩) := (by subst hρ; rfl); clear hρ hd
              (go_simp; (try (first | exact wrap_in _ (by omega) (by omega) | exact HZ.out | exact HN.out | rw [if_pos HZ.out.1, if_pos HZ.out.2])))
            refine FSteps.cons (FStep.call (.bool true) _ #[.agg #[.int .i64 x3, .int .i64 y3, .int .i64 x4, .int .i64 y4], .agg #[.int .i64 x1, .int .i64 y1, .int .i64 x2, .int .i64 y2]] (fun u w hd => wanted_on 7 28 true rfl rfl (congrArg some (hd.get 3 _ rfl rfl))) (fun _ _ => rfl) (fun _ => rfl) (fun u w hW hC (hd : After _ _ u w) ρ hρ => ?_) (fun w => DoMeet_at _ _ _ _ _ _ _ _ _ w F4.out)) ?_
            · have r32 : ρ (.tmp 32) = .agg #[.int .i64 x3, .int .i64 y3, .int .i64 x4, .int .i64 y4] := (by rw [hρ]; exact hd.get 0 _ rfl rfl); have r33 : ρ (.tmp 33) = .agg #[.int .i64 x1, .int .i64 y1, .int .i64 x2, .int .i64 y2] := (by rw [hρ]; exact hd.get 1 _ rfl rfl); have rf : ∀ f, ρ (.func f) = .func (.func f) #[] #[] := (by subst hρ; exact fun _ => rfl); clear hρ hd
              (go_simp; (try (first | exact wrap_in _ (by omega) (by omega) | exact HZ.out | exact HN.out | rw [if_pos HZ.out.1, if_pos HZ.out.2])))
            refine FSteps.cons (FStep.value (.bool true) (fun u w hd => wanted_on 7 28 true rfl rfl (congrArg some (hd.get 2 _ rfl rfl))) (fun _ _ => rfl) (fun _ => rfl) (fun u w hW hC (hd : After _ _ u w) ρ hρ => ?_)) ?_
            · have r31 : ρ (.tmp 31) = .bool true := (by rw [hρ]; exact hd.get 0 _ rfl rfl); have r34 : ρ (.tmp 34) = .bool true := (by rw [hρ]; exact hd.get 1 _ rfl rfl); clear hρ hd
              (go_simp; (try (first | exact wrap_in _ (by omega) (by omega) | exact HZ.out | exact HN.out | rw [if_pos HZ.out.1, if_pos HZ.out.2])))
            refine FSteps.cons (FStep.value (.bool true) (fun _ _ _ => wanted_none rfl) (fun _ _ => rfl) (fun _ => rfl) (fun u w hW hC (hd : After _ _ u w) ρ hρ => ?_)) ?_
            · have r28 : ρ (.tmp 28) = .bool true := (by rw [hρ]; exact hd.get 0 _ rfl rfl); have r35 : ρ (.tmp 35) = .bool true := (by rw [hρ]; exact hd.get 1 _ rfl rfl); have rc : ∀ v, ρ (.const v) = v := (by subst hρ; exact fun _ => rfl); clear hρ hd
              (go_simp; (try (first | exact wrap_in _ (by omega) (by omega) | exact HZ.out | exact HN.out | rw [if_pos HZ.out.1, if_pos HZ.out.2])))
            refine FSteps.cons (FStep.value (.bool true) (fun _ _ _ => wanted_none rfl) (fun _ _ => rfl) (fun _ => rfl) (fun u w hW hC (hd : After _ _ u w) ρ hρ => ?_)) ?_
            · have r36 : ρ (.tmp 36) = .bool true := (by rw [hρ]; exact hd.get 0 _ rfl rfl); clear hρ hd
              (go_simp; (try (first | exact wrap_in _ (by omega) (by omega) | exact HZ.out | exact HN.out | rw [if_pos HZ.out.1, if_pos HZ.out.2])))
            refine FSteps.cons (FStep.value (.agg #[.int .i64 x1, .int .i64 y1, .int .i64 x2, .int .i64 y2]) (fun u w hd => wanted_on 16 37 true rfl rfl (congrArg some (hd.get 0 _ rfl rfl))) (fun _ _ => rfl) (fun _ => rfl) (fun u w hW hC (hd : After _ _ u w) ρ hρ => ?_)) ?_
            · have r3 : ρ (.tmp 3) = .pointer (some ⟨w1.heap.size, 0, none⟩) := (by subst hρ; rfl); clear hρ hd
              (go_simp; (try (first | exact wrap_in _ (by omega) (by omega) | exact HZ.out | exact HN.out | rw [if_pos HZ.out.1, if_pos HZ.out.2])))
            refine FSteps.cons (FStep.value (.agg #[.int .i64 x3, .int .i64 y3, .int .i64 x4, .int .i64 y4]) (fun u w hd => wanted_on 16 37 true rfl rfl (congrArg some (hd.get 0 _ rfl rfl))) (fun _ _ => rfl) (fun _ => rfl) (fun u w hW hC (hd : After _ _ u w) ρ hρ => ?_)) ?_
            · have r4 : ρ (.tmp 4) = .pointer (some ⟨w1.heap.size + 1, 0, none⟩) := (by subst hρ; rfl); clear hρ hd
              (go_simp; (try (first | exact wrap_in _ (by omega) (by omega) | exact HZ.out | exact HN.out | rw [if_pos HZ.out.1, if_pos HZ.out.2])))
            refine FSteps.cons (FStep.call (.bool false) _ #[.agg #[.int .i64 x1, .int .i64 y1, .int .i64 x2, .int .i64 y2], .agg #[.int .i64 x3, .int .i64 y3, .int .i64 x4, .int .i64 y4]] (fun u w hd => wanted_on 16 37 true rfl rfl (congrArg some (hd.get 2 _ rfl rfl))) (fun _ _ => rfl) (fun _ => rfl) (fun u w hW hC (hd : After _ _ u w) ρ hρ => ?_) (fun w => DoCross_at _ _ _ _ _ _ _ _ _ w F1.out)) ?_
            · have r38 : ρ (.tmp 38) = .agg #[.int .i64 x1, .int .i64 y1, .int .i64 x2, .int .i64 y2] := (by rw [hρ]; exact hd.get 0 _ rfl rfl); have r39 : ρ (.tmp 39) = .agg #[.int .i64 x3, .int .i64 y3, .int .i64 x4, .int .i64 y4] := (by rw [hρ]; exact hd.get 1 _ rfl rfl); have rf : ∀ f, ρ (.func f) = .func (.func f) #[] #[] := (by subst hρ; exact fun _ => rfl); clear hρ hd
              (go_simp; (try (first | exact wrap_in _ (by omega) (by omega) | exact HZ.out | exact HN.out | rw [if_pos HZ.out.1, if_pos HZ.out.2])))
            refine FSteps.cons (FStep.value (.bool true) (fun u w hd => wanted_on 16 37 true rfl rfl (congrArg some (hd.get 1 _ rfl rfl))) (fun _ _ => rfl) (fun _ => rfl) (fun u w hW hC (hd : After _ _ u w) ρ hρ => ?_)) ?_
            · have r40 : ρ (.tmp 40) = .bool false := (by rw [hρ]; exact hd.get 0 _ rfl rfl); clear hρ hd
              (go_simp; (try (first | exact wrap_in _ (by omega) (by omega) | exact HZ.out | exact HN.out | rw [if_pos HZ.out.1, if_pos HZ.out.2])))
            refine FSteps.cons (FStep.value (.bool true) (fun u w hd => wanted_on 16 37 true rfl rfl (congrArg some (hd.get 2 _ rfl rfl))) (fun _ _ => rfl) (fun _ => rfl) (fun u w hW hC (hd : After _ _ u w) ρ hρ => ?_)) ?_
            · have r41 : ρ (.tmp 41) = .bool true := (by rw [hρ]; exact hd.get 0 _ rfl rfl); clear hρ hd
              (go_simp; (try (first | exact wrap_in _ (by omega) (by omega) | exact HZ.out | exact HN.out | rw [if_pos HZ.out.1, if_pos HZ.out.2])))
            refine FSteps.cons (FStep.off_ 21 42 false rfl rfl (fun u w hd => .inl (congrArg some (After.get (V := vOf _) hd 0 _ rfl rfl))) (fun _ => rfl) (fun _ => rfl)) ?_
            refine FSteps.cons (FStep.off_ 21 42 false rfl rfl (fun u w hd => .inl (congrArg some (After.get (V := vOf _) hd 0 _ rfl rfl))) (fun _ => rfl) (fun _ => rfl)) ?_
            refine FSteps.cons (FStep.off_ 21 42 false rfl rfl (fun u w hd => .inl (congrArg some (After.get (V := vOf _) hd 2 _ rfl rfl))) (fun _ => rfl) (fun _ => rfl)) ?_
            refine FSteps.cons (FStep.value (.bool true) (fun u w hd => wanted_on 16 37 true rfl rfl (congrArg some (hd.get 2 _ rfl rfl))) (fun _ _ => rfl) (fun _ => rfl) (fun u w hW hC (hd : After _ _ u w) ρ hρ => ?_)) ?_
            · have r42 : ρ (.tmp 42) = .bool true := (by rw [hρ]; exact hd.get 0 _ rfl rfl); have r45 : ρ (.tmp 45) = undef := (by rw [hρ]; exact hd.get 1 _ rfl rfl); have rc : ∀ v, ρ (.const v) = v := (by subst hρ; exact fun _ => rfl); clear hρ hd
              (go_simp; (try (first | exact wrap_in _ (by omega) (by omega) | exact HZ.out | exact HN.out | rw [if_pos HZ.out.1, if_pos HZ.out.2])))
            refine FSteps.cons (FStep.value (.bool true) (fun _ _ _ => wanted_none rfl) (fun _ _ => rfl) (fun _ => rfl) (fun u w hW hC (hd : After _ _ u w) ρ hρ => ?_)) ?_
            · have r37 : ρ (.tmp 37) = .bool true := (by rw [hρ]; exact hd.get 0 _ rfl rfl); have r46 : ρ (.tmp 46) = .bool true := (by rw [hρ]; exact hd.get 1 _ rfl rfl); have rc : ∀ v, ρ (.const v) = v := (by subst hρ; exact fun _ => rfl); clear hρ hd
              (go_simp; (try (first | exact wrap_in _ (by omega) (by omega) | exact HZ.out | exact HN.out | rw [if_pos HZ.out.1, if_pos HZ.out.2])))
            refine FSteps.cons (FStep.value (.bool true) (fun _ _ _ => wanted_none rfl) (fun _ _ => rfl) (fun _ => rfl) (fun u w hW hC (hd : After _ _ u w) ρ hρ => ?_)) ?_
            · have r47 : ρ (.tmp 47) = .bool true := (by rw [hρ]; exact hd.get 0 _ rfl rfl); clear hρ hd
              (go_simp; (try (first | exact wrap_in _ (by omega) (by omega) | exact HZ.out | exact HN.out | rw [if_pos HZ.out.1, if_pos HZ.out.2])))
            refine FSteps.cons (FStep.value (.pointer (some ⟨w1.heap.size, 2, none⟩)) (fun u w hd => wanted_on 27 48 true rfl rfl (congrArg some (hd.get 0 _ rfl rfl))) (fun _ _ => rfl) (fun _ => rfl) (fun u w hW hC (hd : After _ _ u w) ρ hρ => ?_)) ?_
            · have r3 : ρ (.tmp 3) = .pointer (some ⟨w1.heap.size, 0, none⟩) := (by subst hρ; rfl); clear hρ hd
              (go_simp; (try (first | exact wrap_in _ (by omega) (by omega) | exact HZ.out | exact HN.out | rw [if_pos HZ.out.1, if_pos HZ.out.2])))
            refine FSteps.cons (FStep.value (.agg #[.int .i64 x2, .int .i64 y2]) (fun u w hd => wanted_on 27 48 true rfl rfl (congrArg some (hd.get 1 _ rfl rfl))) (fun _ _ => rfl) (fun _ => rfl) (fun u w hW hC (hd : After _ _ u w) ρ hρ => ?_)) ?_
            · have r49 : ρ (.tmp 49) = .pointer (some ⟨w1.heap.size, 2, none⟩) := (by rw [hρ]; exact hd.get 0 _ rfl rfl); clear hρ hd
              (go_simp; (try (first | exact wrap_in _ (by omega) (by omega) | exact HZ.out | exact HN.out | rw [if_pos HZ.out.1, if_pos HZ.out.2])))
            refine FSteps.cons (FStep.value (.pointer (some ⟨w1.heap.size + 1, 0, none⟩)) (fun u w hd => wanted_on 27 48 true rfl rfl (congrArg some (hd.get 0 _ rfl rfl))) (fun _ _ => rfl) (fun _ => rfl) (fun u w hW hC (hd : After _ _ u w) ρ hρ => ?_)) ?_
            · have r4 : ρ (.tmp 4) = .pointer (some ⟨w1.heap.size + 1, 0, none⟩) := (by subst hρ; rfl); clear hρ hd
              (go_simp; (try (first | exact wrap_in _ (by omega) (by omega) | exact HZ.out | exact HN.out | rw [if_pos HZ.out.1, if_pos HZ.out.2])))
            refine FSteps.cons (FStep.value (.agg #[.int .i64 x3, .int .i64 y3]) (fun u w hd => wanted_on 27 48 true rfl rfl (congrArg some (hd.get 1 _ rfl rfl))) (fun _ _ => rfl) (fun _ => rfl) (fun u w hW hC (hd : After _ _ u w) ρ hρ => ?_)) ?_
            · have r51 : ρ (.tmp 51) = .pointer (some ⟨w1.heap.size + 1, 0, none⟩) := (by rw [hρ]; exact hd.get 0 _ rfl rfl); clear hρ hd
              (go_simp; (try (first | exact wrap_in _ (by omega) (by omega) | exact HZ.out | exact HN.out | rw [if_pos HZ.out.1, if_pos HZ.out.2])))
            refine FSteps.cons (FStep.value (.bool true) (fun u w hd => wanted_on 27 48 true rfl rfl (congrArg some (hd.get 2 _ rfl rfl))) (fun _ _ => rfl) (fun _ => rfl) (fun u w hW hC (hd : After _ _ u w) ρ hρ => ?_)) ?_
            · have r50 : ρ (.tmp 50) = .agg #[.int .i64 x2, .int .i64 y2] := (by rw [hρ]; exact hd.get 0 _ rfl rfl); have r52 : ρ (.tmp 52) = .agg #[.int .i64 x3, .int .i64 y3] := (by rw [hρ]; exact hd.get 1 _ rfl rfl); clear hρ hd
              (go_simp; (try (first | exact wrap_in _ (by omega) (by omega) | exact HZ.out | exact HN.out | rw [if_pos HZ.out.1, if_pos HZ.out.2])))
            refine FSteps.cons (FStep.value (.bool true) (fun u w hd => wanted_on 27 48 true rfl rfl (congrArg some (hd.get 1 _ rfl rfl))) (fun _ _ => rfl) (fun _ => rfl) (fun u w hW hC (hd : After _ _ u w) ρ hρ => ?_)) ?_
            · have r53 : ρ (.tmp 53) = .bool true := (by rw [hρ]; exact hd.get 0 _ rfl rfl); clear hρ hd
              (go_simp; (try (first | exact wrap_in _ (by omega) (by omega) | exact HZ.out | exact HN.out | rw [if_pos HZ.out.1, if_pos HZ.out.2])))
            refine FSteps.cons (FStep.off_ 33 54 false rfl rfl (fun u w hd => .inl (congrArg some (After.get (V := vOf _) hd 0 _ rfl rfl))) (fun _ => rfl) (fun _ => rfl)) ?_
            refine FSteps.cons (FStep.off_ 33 54 false rfl rfl (fun u w hd => .inl (congrArg some (After.get (V := vOf _) hd 0 _ rfl rfl))) (fun _ => rfl) (fun _ => rfl)) ?_
            refine FSteps.cons (FStep.off_ 33 54 false rfl rfl (fun u w hd => .inl (congrArg some (After.get (V := vOf _) hd 2 _ rfl rfl))) (fun _ => rfl) (fun _ => rfl)) ?_
            refine FSteps.cons (FStep.off_ 33 54 false rfl rfl (fun u w hd => .inl (congrArg some (After.get (V := vOf _) hd 2 _ rfl rfl))) (fun _ => rfl) (fun _ => rfl)) ?_
            refine FSteps.cons (FStep.off_ 37 58 true rfl rfl (fun u w hd => .inr (congrArg some (After.get (V := vOf _) hd 0 _ rfl rfl))) (fun _ => rfl) (fun _ => rfl)) ?_
            refine FSteps.cons (FStep.off_ 37 58 true rfl rfl (fun u w hd => .inr (congrArg some (After.get (V := vOf _) hd 0 _ rfl rfl))) (fun _ => rfl) (fun _ => rfl)) ?_
            refine FSteps.cons (FStep.off_ 37 58 true rfl rfl (fun u w hd => .inr (congrArg some (After.get (V := vOf _) hd 2 _ rfl rfl))) (fun _ => rfl) (fun _ => rfl)) ?_
            refine FSteps.cons (FStep.off_ 37 58 true rfl rfl (fun u w hd => .inr (congrArg some (After.get (V := vOf _) hd 1 _ rfl rfl))) (fun _ => rfl) (fun _ => rfl)) ?_
            refine FSteps.cons (FStep.off_ 33 54 false rfl rfl (fun u w hd => .inl (congrArg some (After.get (V := vOf _) hd 2 _ rfl rfl))) (fun _ => rfl) (fun _ => rfl)) ?_
            refine FSteps.cons (FStep.value (.bool true) (fun u w hd => wanted_on 27 48 true rfl rfl (congrArg some (hd.get 2 _ rfl rfl))) (fun _ _ => rfl) (fun _ => rfl) (fun u w hW hC (hd : After _ _ u w) ρ hρ => ?_)) ?_
            · have r54 : ρ (.tmp 54) = .bool true := (by rw [hρ]; exact hd.get 0 _ rfl rfl); have r63 : ρ (.tmp 63) = undef := (by rw [hρ]; exact hd.get 1 _ rfl rfl); have rc : ∀ v, ρ (.const v) = v := (by subst hρ; exact fun _ => rfl); clear hρ hd
              (go_simp; (try (first | exact wrap_in _ (by omega) (by omega) | exact HZ.out | exact HN.out | rw [if_pos HZ.out.1, if_pos HZ.out.2])))
            refine FSteps.cons (FStep.value (.bool true) (fun _ _ _ => wanted_none rfl) (fun _ _ => rfl) (fun _ => rfl) (fun u w hW hC (hd : After _ _ u w) ρ hρ => ?_)) ?_
            · have r48 : ρ (.tmp 48) = .bool true := (by rw [hρ]; exact hd.get 0 _ rfl rfl); have r64 : ρ (.tmp 64) = .bool true := (by rw [hρ]; exact hd.get 1 _ rfl rfl); have rc : ∀ v, ρ (.const v) = v := (by subst hρ; exact fun _ => rfl); clear hρ hd
              (go_simp; (try (first | exact wrap_in _ (by omega) (by omega) | exact HZ.out | exact HN.out | rw [if_pos HZ.out.1, if_pos HZ.out.2])))
            refine FSteps.cons (FStep.value (.bool true) (fun _ _ _ => wanted_none rfl) (fun _ _ => rfl) (fun _ => rfl) (fun u w hW hC (hd : After _ _ u w) ρ hρ => ?_)) ?_
            · have r65 : ρ (.tmp 65) = .bool true := (by rw [hρ]; exact hd.get 0 _ rfl rfl); clear hρ hd
              (go_simp; (try (first | exact wrap_in _ (by omega) (by omega) | exact HZ.out | exact HN.out | rw [if_pos HZ.out.1, if_pos HZ.out.2])))
            refine FSteps.cons (FStep.value (.int .i64 (n)) (fun u w hd => wanted_on 45 66 true rfl rfl (congrArg some (hd.get 0 _ rfl rfl))) (fun _ _ => rfl) (fun _ => rfl) (fun u w hW hC (hd : After _ _ u w) ρ hρ => ?_)) ?_
            · have r5 : ρ (.tmp 5) = .int .i64 (n) := (by subst hρ; rfl); clear hρ hd
              (go_simp; (try (first | exact wrap_in _ (by omega) (by omega) | exact HZ.out | exact HN.out | rw [if_pos HZ.out.1, if_pos HZ.out.2])))
            refine FSteps.cons (FStep.value (.bool true) (fun u w hd => wanted_on 45 66 true rfl rfl (congrArg some (hd.get 1 _ rfl rfl))) (fun _ _ => rfl) (fun _ => rfl) (fun u w hW hC (hd : After _ _ u w) ρ hρ => ?_)) ?_
            · have r67 : ρ (.tmp 67) = .int .i64 (n) := (by rw [hρ]; exact hd.get 0 _ rfl rfl); have rc : ∀ v, ρ (.const v) = v := (by subst hρ; exact fun _ => rfl); clear hρ hd
              (go_simp; (try (first | exact wrap_in _ (by omega) (by omega) | exact HZ.out | exact HN.out | rw [if_pos HZ.out.1, if_pos HZ.out.2])))
            refine FSteps.cons (FStep.value (.bool true) (fun _ _ _ => wanted_none rfl) (fun _ _ => rfl) (fun _ => rfl) (fun u w hW hC (hd : After _ _ u w) ρ hρ => ?_)) ?_
            · have r66 : ρ (.tmp 66) = .bool true := (by rw [hρ]; exact hd.get 0 _ rfl rfl); have r68 : ρ (.tmp 68) = .bool true := (by rw [hρ]; exact hd.get 1 _ rfl rfl); have rc : ∀ v, ρ (.const v) = v := (by subst hρ; exact fun _ => rfl); clear hρ hd
              (go_simp; (try (first | exact wrap_in _ (by omega) (by omega) | exact HZ.out | exact HN.out | rw [if_pos HZ.out.1, if_pos HZ.out.2])))
            refine FSteps.cons (FStep.value (.bool true) (fun _ _ _ => wanted_none rfl) (fun _ _ => rfl) (fun _ => rfl) (fun u w hW hC (hd : After _ _ u w) ρ hρ => ?_)) ?_
            · have r69 : ρ (.tmp 69) = .bool true := (by rw [hρ]; exact hd.get 0 _ rfl rfl); clear hρ hd
              (go_simp; (try (first | exact wrap_in _ (by omega) (by omega) | exact HZ.out | exact HN.out | rw [if_pos HZ.out.1, if_pos HZ.out.2])))
            refine FSteps.cons (FStep.value (.int .i64 (n)) (fun u w hd => wanted_on 49 70 true rfl rfl (congrArg some (hd.get 0 _ rfl rfl))) (fun _ _ => rfl) (fun _ => rfl) (fun u w hW hC (hd : After _ _ u w) ρ hρ => ?_)) ?_
            · have r5 : ρ (.tmp 5) = .int .i64 (n) := (by subst hρ; rfl); clear hρ hd
              (go_simp; (try (first | exact wrap_in _ (by omega) (by omega) | exact HZ.out | exact HN.out | rw [if_pos HZ.out.1, if_pos HZ.out.2])))
            refine FSteps.cons (FStep.value (.bool true) (fun u w hd => wanted_on 49 70 true rfl rfl (congrArg some (hd.get 1 _ rfl rfl))) (fun _ _ => rfl) (fun _ => rfl) (fun u w hW hC (hd : After _ _ u w) ρ hρ => ?_)) ?_
            · have r71 : ρ (.tmp 71) = .int .i64 (n) := (by rw [hρ]; exact hd.get 0 _ rfl rfl); have rc : ∀ v, ρ (.const v) = v := (by subst hρ; exact fun _ => rfl); clear hρ hd
              (go_simp; (try (first | exact wrap_in _ (by omega) (by omega) | exact HZ.out | exact HN.out | rw [if_pos HZ.out.1, if_pos HZ.out.2])))
            refine FSteps.cons (FStep.value (.bool true) (fun _ _ _ => wanted_none rfl) (fun _ _ => rfl) (fun _ => rfl) (fun u w hW hC (hd : After _ _ u w) ρ hρ => ?_)) ?_
            · have r70 : ρ (.tmp 70) = .bool true := (by rw [hρ]; exact hd.get 0 _ rfl rfl); have r72 : ρ (.tmp 72) = .bool true := (by rw [hρ]; exact hd.get 1 _ rfl rfl); have rc : ∀ v, ρ (.const v) = v := (by subst hρ; exact fun _ => rfl); clear hρ hd
              (go_simp; (try (first | exact wrap_in _ (by omega) (by omega) | exact HZ.out | exact HN.out | rw [if_pos HZ.out.1, if_pos HZ.out.2])))
            refine FSteps.cons (FStep.value (.bool true) (fun _ _ _ => wanted_none rfl) (fun _ _ => rfl) (fun _ => rfl) (fun u w hW hC (hd : After _ _ u w) ρ hρ => ?_)) ?_
            · have r73 : ρ (.tmp 73) = .bool true := (by rw [hρ]; exact hd.get 0 _ rfl rfl); clear hρ hd
              (go_simp; (try (first | exact wrap_in _ (by omega) (by omega) | exact HZ.out | exact HN.out | rw [if_pos HZ.out.1, if_pos HZ.out.2])))
            refine FSteps.cons (FStep.value (.agg #[.int .i64 x3, .int .i64 y3, .int .i64 x4, .int .i64 y4]) (fun u w hd => wanted_on 53 74 true rfl rfl (congrArg some (hd.get 0 _ rfl rfl))) (fun _ _ => rfl) (fun _ => rfl) (fun u w hW hC (hd : After _ _ u w) ρ hρ => ?_)) ?_
            · have r4 : ρ (.tmp 4) = .pointer (some ⟨w1.heap.size + 1, 0, none⟩) := (by subst hρ; rfl); clear hρ hd
              (go_simp; (try (first | exact wrap_in _ (by omega) (by omega) | exact HZ.out | exact HN.out | rw [if_pos HZ.out.1, if_pos HZ.out.2])))
            refine FSteps.cons (FStep.call (.int .i64 (q)) _ #[.agg #[.int .i64 x3, .int .i64 y3, .int .i64 x4, .int .i64 y4]] (fun u w hd => wanted_on 53 74 true rfl rfl (congrArg some (hd.get 1 _ rfl rfl))) (fun _ _ => rfl) (fun _ => rfl) (fun u w hW hC (hd : After _ _ u w) ρ hρ => ?_) (fun w => LengthSquare_at _ _ _ _ _ w F5.out)) ?_
            · have r75 : ρ (.tmp 75) = .agg #[.int .i64 x3, .int .i64 y3, .int .i64 x4, .int .i64 y4] := (by rw [hρ]; exact hd.get 0 _ rfl rfl); have rf : ∀ f, ρ (.func f) = .func (.func f) #[] #[] := (by subst hρ; exact fun _ => rfl); clear hρ hd
              (go_simp; (try (first | exact wrap_in _ (by omega) (by omega) | exact HZ.out | exact HN.out | rw [if_pos HZ.out.1, if_pos HZ.out.2])))
            refine FSteps.cons (FStep.value (.int .i64 (n)) (fun u w hd => wanted_on 53 74 true rfl rfl (congrArg some (hd.get 0 _ rfl rfl))) (fun _ _ => rfl) (fun _ => rfl) (fun u w hW hC (hd : After _ _ u w) ρ hρ => ?_)) ?_
            · have r5 : ρ (.tmp 5) = .int .i64 (n) := (by subst hρ; rfl); clear hρ hd
              (go_simp; (try (first | exact wrap_in _ (by omega) (by omega) | exact HZ.out | exact HN.out | rw [if_pos HZ.out.1, if_pos HZ.out.2])))
            refine FSteps.cons (FStep.value (.int .i64 (n)) (fun u w hd => wanted_on 53 74 true rfl rfl (congrArg some (hd.get 0 _ rfl rfl))) (fun _ _ => rfl) (fun _ => rfl) (fun u w hW hC (hd : After _ _ u w) ρ hρ => ?_)) ?_
            · have r5 : ρ (.tmp 5) = .int .i64 (n) := (by subst hρ; rfl); clear hρ hd
              (go_simp; (try (first | exact wrap_in _ (by omega) (by omega) | exact HZ.out | exact HN.out | rw [if_pos HZ.out.1, if_pos HZ.out.2])))
            refine FSteps.cons (FStep.value (.int .i64 (nn)) (fun u w hd => wanted_on 53 74 true rfl rfl (congrArg some (hd.get 2 _ rfl rfl))) (fun _ _ => rfl) (fun _ => rfl) (fun u w hW hC (hd : After _ _ u w) ρ hρ => ?_)) ?_
            · have r77 : ρ (.tmp 77) = .int .i64 (n) := (by rw [hρ]; exact hd.get 0 _ rfl rfl); have r78 : ρ (.tmp 78) = .int .i64 (n) := (by rw [hρ]; exact hd.get 1 _ rfl rfl); clear hρ hd
              (go_simp; (try (first | exact wrap_in _ (by omega) (by omega) | exact HZ.out | exact HN.out | rw [if_pos HZ.out.1, if_pos HZ.out.2])))
            refine FSteps.cons (FStep.value (.int .i64 (0)) (fun u w hd => wanted_on 53 74 true rfl rfl (congrArg some (hd.get 2 _ rfl rfl))) (fun _ _ => rfl) (fun _ => rfl) (fun u w hW hC (hd : After _ _ u w) ρ hρ => ?_)) ?_
            · have r76 : ρ (.tmp 76) = .int .i64 (q) := (by rw [hρ]; exact hd.get 0 _ rfl rfl); have r79 : ρ (.tmp 79) = .int .i64 (nn) := (by rw [hρ]; exact hd.get 1 _ rfl rfl); clear hρ hd
              (go_simp; (try (first | exact wrap_in _ (by omega) (by omega) | exact HZ.out | exact HN.out | rw [if_pos HZ.out.1, if_pos HZ.out.2])))
            refine FSteps.cons (FStep.value (.bool true) (fun u w hd => wanted_on 53 74 true rfl rfl (congrArg some (hd.get 1 _ rfl rfl))) (fun _ _ => rfl) (fun _ => rfl) (fun u w hW hC (hd : After _ _ u w) ρ hρ => ?_)) ?_
            · have r80 : ρ (.tmp 80) = .int .i64 (0) := (by rw [hρ]; exact hd.get 0 _ rfl rfl); have rc : ∀ v, ρ (.const v) = v := (by subst hρ; exact fun _ => rfl); clear hρ hd
              (go_simp; (try (first | exact wrap_in _ (by omega) (by omega) | exact HZ.out | exact HN.out | rw [if_pos HZ.out.1, if_pos HZ.out.2])))
            refine FSteps.cons (FStep.value (.bool true) (fun _ _ _ => wanted_none rfl) (fun _ _ => rfl) (fun _ => rfl) (fun u w hW hC (hd : After _ _ u w) ρ hρ => ?_)) ?_
            · have r74 : ρ (.tmp 74) = .bool true := (by rw [hρ]; exact hd.get 0 _ rfl rfl); have r81 : ρ (.tmp 81) = .bool true := (by rw [hρ]; exact hd.get 1 _ rfl rfl); have rc : ∀ v, ρ (.const v) = v := (by subst hρ; exact fun _ => rfl); clear hρ hd
              (go_simp; (try (first | exact wrap_in _ (by omega) (by omega) | exact HZ.out | exact HN.out | rw [if_pos HZ.out.1, if_pos HZ.out.2])))
            refine FSteps.cons (FStep.value (.bool true) (fun _ _ _ => wanted_none rfl) (fun _ _ => rfl) (fun _ => rfl) (fun u w hW hC (hd : After _ _ u w) ρ hρ => ?_)) ?_
            · have r82 : ρ (.tmp 82) = .bool true := (by rw [hρ]; exact hd.get 0 _ rfl rfl); clear hρ hd
              (go_simp; (try (first | exact wrap_in _ (by omega) (by omega) | exact HZ.out | exact HN.out | rw [if_pos HZ.out.1, if_pos HZ.out.2])))
            refine FSteps.cons (FStep.value (.agg #[.int .i64 x4, .int .i64 y4, .int .i64 x3, .int .i64 y3]) (fun u w hd => wanted_on 62 83 true rfl rfl (congrArg some (hd.get 0 _ rfl rfl))) (fun _ _ => rfl) (fun _ => rfl) (fun u w hW hC (hd : After _ _ u w) ρ hρ => ?_)) ?_
            · have r6 : ρ (.tmp 6) = .pointer (some ⟨wz.heap.size, 0, none⟩) := (by subst hρ; rfl); clear hρ hd
              (go_simp; (try (first | exact wrap_in _ (by omega) (by omega) | exact HZ.out | exact HN.out | rw [if_pos HZ.out.1, if_pos HZ.out.2])))
            refine FSteps.cons (FStep.call (.int .i64 (n)) _ #[.agg #[.int .i64 x4, .int .i64 y4, .int .i64 x3, .int .i64 y3]] (fun u w hd => wanted_on 62 83 true rfl rfl (congrArg some (hd.get 1 _ rfl rfl))) (fun _ _ => rfl) (fun _ => rfl) (fun u w hW hC (hd : After _ _ u w) ρ hρ => ?_) (fun w => LatticeSteps_at _ _ _ _ _ w F6.out)) ?_
            · have r84 : ρ (.tmp 84) = .agg #[.int .i64 x4, .int .i64 y4, .int .i64 x3, .int .i64 y3] := (by rw [hρ]; exact hd.get 0 _ rfl rfl); have rf : ∀ f, ρ (.func f) = .func (.func f) #[] #[] := (by subst hρ; exact fun _ => rfl); clear hρ hd
              (go_simp; (try (first | exact wrap_in _ (by omega) (by omega) | exact HZ.out | exact HN.out | rw [if_pos HZ.out.1, if_pos HZ.out.2])))
            refine FSteps.cons (FStep.value (.int .i64 (n)) (fun u w hd => wanted_on 62 83 true rfl rfl (congrArg some (hd.get 0 _ rfl rfl))) (fun _ _ => rfl) (fun _ => rfl) (fun u w hW hC (hd : After _ _ u w) ρ hρ => ?_)) ?_
            · have r5 : ρ (.tmp 5) = .int .i64 (n) := (by subst hρ; rfl); clear hρ hd
              (go_simp; (try (first | exact wrap_in _ (by omega) (by omega) | exact HZ.out | exact HN.out | rw [if_pos HZ.out.1, if_pos HZ.out.2])))
            refine FSteps.cons (FStep.value (.bool true) (fun u w hd => wanted_on 62 83 true rfl rfl (congrArg some (hd.get 2 _ rfl rfl))) (fun _ _ => rfl) (fun _ => rfl) (fun u w hW hC (hd : After _ _ u w) ρ hρ => ?_)) ?_
            · have r85 : ρ (.tmp 85) = .int .i64 (n) := (by rw [hρ]; exact hd.get 0 _ rfl rfl); have r86 : ρ (.tmp 86) = .int .i64 (n) := (by rw [hρ]; exact hd.get 1 _ rfl rfl); clear hρ hd
              (go_simp; (try (first | exact wrap_in _ (by omega) (by omega) | exact HZ.out | exact HN.out | rw [if_pos HZ.out.1, if_pos HZ.out.2])))
            refine FSteps.cons (FStep.value (.bool true) (fun _ _ _ => wanted_none rfl) (fun _ _ => rfl) (fun _ => rfl) (fun u w hW hC (hd : After _ _ u w) ρ hρ => ?_)) ?_
            · have r83 : ρ (.tmp 83) = .bool true := (by rw [hρ]; exact hd.get 0 _ rfl rfl); have r87 : ρ (.tmp 87) = .bool true := (by rw [hρ]; exact hd.get 1 _ rfl rfl); have rc : ∀ v, ρ (.const v) = v := (by subst hρ; exact fun _ => rfl); clear hρ hd
              (go_simp; (try (first | exact wrap_in _ (by omega) (by omega) | exact HZ.out | exact HN.out | rw [if_pos HZ.out.1, if_pos HZ.out.2])))
            refine FSteps.cons (FStep.value (.bool true) (fun _ _ _ => wanted_none rfl) (fun _ _ => rfl) (fun _ => rfl) (fun u w hW hC (hd : After _ _ u w) ρ hρ => ?_)) ?_
            · have r88 : ρ (.tmp 88) = .bool true := (by rw [hρ]; exact hd.get 0 _ rfl rfl); clear hρ hd
              (go_simp; (try (first | exact wrap_in _ (by omega) (by omega) | exact HZ.out | exact HN.out | rw [if_pos HZ.out.1, if_pos HZ.out.2])))
            refine FSteps.cons (FStep.value (.agg #[.int .i64 x1, .int .i64 y1, .int .i64 x2, .int .i64 y2]) (fun u w hd => wanted_on 68 89 true rfl rfl (congrArg some (hd.get 0 _ rfl rfl))) (fun _ _ => rfl) (fun _ => rfl) (fun u w hW hC (hd : After _ _ u w) ρ hρ => ?_)) ?_
            · have r3 : ρ (.tmp 3) = .pointer (some ⟨w1.heap.size, 0, none⟩) := (by subst hρ; rfl); clear hρ hd
              (go_simp; (try (first | exact wrap_in _ (by omega) (by omega) | exact HZ.out | exact HN.out | rw [if_pos HZ.out.1, if_pos HZ.out.2])))
            refine FSteps.cons (FStep.value (.agg #[.int .i64 x4, .int .i64 y4, .int .i64 x3, .int .i64 y3]) (fun u w hd => wanted_on 68 89 true rfl rfl (congrArg some (hd.get 0 _ rfl rfl))) (fun _ _ => rfl) (fun _ => rfl) (fun u w hW hC (hd : After _ _ u w) ρ hρ => ?_)) ?_
            · have r6 : ρ (.tmp 6) = .pointer (some ⟨wz.heap.size, 0, none⟩) := (by subst hρ; rfl); clear hρ hd
              (go_simp; (try (first | exact wrap_in _ (by omega) (by omega) | exact HZ.out | exact HN.out | rw [if_pos HZ.out.1, if_pos HZ.out.2])))
            refine FSteps.cons (FStep.call (.bool false) _ #[.agg #[.int .i64 x1, .int .i64 y1, .int .i64 x2, .int .i64 y2], .agg #[.int .i64 x4, .int .i64 y4, .int .i64 x3, .int .i64 y3]] (fun u w hd => wanted_on 68 89 true rfl rfl (congrArg some (hd.get 2 _ rfl rfl))) (fun _ _ => rfl) (fun _ => rfl) (fun u w hW hC (hd : After _ _ u w) ρ hρ => ?_) (fun w => DoCross_at _ _ _ _ _ _ _ _ _ w F7.out)) ?_
            · have r90 : ρ (.tmp 90) = .agg #[.int .i64 x1, .int .i64 y1, .int .i64 x2, .int .i64 y2] := (by rw [hρ]; exact hd.get 0 _ rfl rfl); have r91 : ρ (.tmp 91) = .agg #[.int .i64 x4, .int .i64 y4, .int .i64 x3, .int .i64 y3] := (by rw [hρ]; exact hd.get 1 _ rfl rfl); have rf : ∀ f, ρ (.func f) = .func (.func f) #[] #[] := (by subst hρ; exact fun _ => rfl); clear hρ hd
              (go_simp; (try (first | exact wrap_in _ (by omega) (by omega) | exact HZ.out | exact HN.out | rw [if_pos HZ.out.1, if_pos HZ.out.2])))
            refine FSteps.cons (FStep.value (.agg #[.int .i64 x1, .int .i64 y1, .int .i64 x2, .int .i64 y2]) (fun u w hd => wanted_on 68 89 true rfl rfl (congrArg some (hd.get 0 _ rfl rfl))) (fun _ _ => rfl) (fun _ => rfl) (fun u w hW hC (hd : After _ _ u w) ρ hρ => ?_)) ?_
            · have r3 : ρ (.tmp 3) = .pointer (some ⟨w1.heap.size, 0, none⟩) := (by subst hρ; rfl); clear hρ hd
              (go_simp; (try (first | exact wrap_in _ (by omega) (by omega) | exact HZ.out | exact HN.out | rw [if_pos HZ.out.1, if_pos HZ.out.2])))
            refine FSteps.cons (FStep.value (.agg #[.int .i64 x3, .int .i64 y3, .int .i64 x4, .int .i64 y4]) (fun u w hd => wanted_on 68 89 true rfl rfl (congrArg some (hd.get 0 _ rfl rfl))) (fun _ _ => rfl) (fun _ => rfl) (fun u w hW hC (hd : After _ _ u w) ρ hρ => ?_)) ?_
            · have r4 : ρ (.tmp 4) = .pointer (some ⟨w1.heap.size + 1, 0, none⟩) := (by subst hρ; rfl); clear hρ hd
              (go_simp; (try (first | exact wrap_in _ (by omega) (by omega) | exact HZ.out | exact HN.out | rw [if_pos HZ.out.1, if_pos HZ.out.2])))
            refine FSteps.cons (FStep.call (.bool false) _ #[.agg #[.int .i64 x1, .int .i64 y1, .int .i64 x2, .int .i64 y2], .agg #[.int .i64 x3, .int .i64 y3, .int .i64 x4, .int .i64 y4]] (fun u w hd => wanted_on 68 89 true rfl rfl (congrArg some (hd.get 3 _ rfl rfl))) (fun _ _ => rfl) (fun _ => rfl) (fun u w hW hC (hd : After _ _ u w) ρ hρ => ?_) (fun w => DoCross_at _ _ _ _ _ _ _ _ _ w F1.out)) ?_
            · have r93 : ρ (.tmp 93) = .agg #[.int .i64 x1, .int .i64 y1, .int .i64 x2, .int .i64 y2] := (by rw [hρ]; exact hd.get 0 _ rfl rfl); have r94 : ρ (.tmp 94) = .agg #[.int .i64 x3, .int .i64 y3, .int .i64 x4, .int .i64 y4] := (by rw [hρ]; exact hd.get 1 _ rfl rfl); have rf : ∀ f, ρ (.func f) = .func (.func f) #[] #[] := (by subst hρ; exact fun _ => rfl); clear hρ hd
              (go_simp; (try (first | exact wrap_in _ (by omega) (by omega) | exact HZ.out | exact HN.out | rw [if_pos HZ.out.1, if_pos HZ.out.2])))
            refine FSteps.cons (FStep.value (.bool true) (fun u w hd => wanted_on 68 89 true rfl rfl (congrArg some (hd.get 2 _ rfl rfl))) (fun _ _ => rfl) (fun _ => rfl) (fun u w hW hC (hd : After _ _ u w) ρ hρ => ?_)) ?_
            · have r92 : ρ (.tmp 92) = .bool false := (by rw [hρ]; exact hd.get 0 _ rfl rfl); have r95 : ρ (.tmp 95) = .bool false := (by rw [hρ]; exact hd.get 1 _ rfl rfl); clear hρ hd
              (go_simp; (try (first | exact wrap_in _ (by omega) (by omega) | exact HZ.out | exact HN.out | rw [if_pos HZ.out.1, if_pos HZ.out.2])))
            refine FSteps.cons (FStep.value (.bool true) (fun _ _ _ => wanted_none rfl) (fun _ _ => rfl) (fun _ => rfl) (fun u w hW hC (hd : After _ _ u w) ρ hρ => ?_)) ?_
            · have r89 : ρ (.tmp 89) = .bool true := (by rw [hρ]; exact hd.get 0 _ rfl rfl); have r96 : ρ (.tmp 96) = .bool true := (by rw [hρ]; exact hd.get 1 _ rfl rfl); have rc : ∀ v, ρ (.const v) = v := (by subst hρ; exact fun _ => rfl); clear hρ hd
              (go_simp; (try (first | exact wrap_in _ (by omega) (by omega) | exact HZ.out | exact HN.out | rw [if_pos HZ.out.1, if_pos HZ.out.2])))
            refine FSteps.cons (FStep.value (.bool true) (fun _ _ _ => wanted_none rfl) (fun _ _ => rfl) (fun _ => rfl) (fun u w hW hC (hd : After _ _ u w) ρ hρ => ?_)) ?_
            · have r97 : ρ (.tmp 97) = .bool true := (by rw [hρ]; exact hd.get 0 _ rfl rfl); clear hρ hd
              (go_simp; (try (first | exact wrap_in _ (by omega) (by omega) | exact HZ.out | exact HN.out | rw [if_pos HZ.out.1, if_pos HZ.out.2])))
            refine FSteps.cons (FStep.value (.agg #[.int .i64 x3, .int .i64 y3, .int .i64 x4, .int .i64 y4]) (fun u w hd => wanted_on 77 98 true rfl rfl (congrArg some (hd.get 0 _ rfl rfl))) (fun _ _ => rfl) (fun _ => rfl) (fun u w hW hC (hd : After _ _ u w) ρ hρ => ?_)) ?_
            · have r4 : ρ (.tmp 4) = .pointer (some ⟨w1.heap.size + 1, 0, none⟩) := (by subst hρ; rfl); clear hρ hd
              (go_simp; (try (first | exact wrap_in _ (by omega) (by omega) | exact HZ.out | exact HN.out | rw [if_pos HZ.out.1, if_pos HZ.out.2])))
            refine FSteps.cons (FStep.value (.pointer (some ⟨w1.heap.size + 1, 0, none⟩)) (fun u w hd => wanted_on 77 98 true rfl rfl (congrArg some (hd.get 0 _ rfl rfl))) (fun _ _ => rfl) (fun _ => rfl) (fun u w hW hC (hd : After _ _ u w) ρ hρ => ?_)) ?_
            · have r4 : ρ (.tmp 4) = .pointer (some ⟨w1.heap.size + 1, 0, none⟩) := (by subst hρ; rfl); clear hρ hd
              (go_simp; (try (first | exact wrap_in _ (by omega) (by omega) | exact HZ.out | exact HN.out | rw [if_pos HZ.out.1, if_pos HZ.out.2])))
            refine FSteps.cons (FStep.value (.agg #[.int .i64 x3, .int .i64 y3]) (fun u w hd => wanted_on 77 98 true rfl rfl (congrArg some (hd.get 1 _ rfl rfl))) (fun _ _ => rfl) (fun _ => rfl) (fun u w hW hC (hd : After _ _ u w) ρ hρ => ?_)) ?_
            · have r100 : ρ (.tmp 100) = .pointer (some ⟨w1.heap.size + 1, 0, none⟩) := (by rw [hρ]; exact hd.get 0 _ rfl rfl); clear hρ hd
              (go_simp; (try (first | exact wrap_in _ (by omega) (by omega) | exact HZ.out | exact HN.out | rw [if_pos HZ.out.1, if_pos HZ.out.2])))
            refine FSteps.cons (FStep.call (.bool true) _ #[.agg #[.int .i64 x3, .int .i64 y3, .int .i64 x4, .int .i64 y4], .agg #[.int .i64 x3, .int .i64 y3]] (fun u w hd => wanted_on 77 98 true rfl rfl (congrArg some (hd.get 2 _ rfl rfl))) (fun _ _ => rfl) (fun _ => rfl) (fun u w hW hC (hd : After _ _ u w) ρ hρ => ?_) (fun w => IsOnWall_at _ _ _ _ _ _ _ w F8.out)) ?_
            · have r99 : ρ (.tmp 99) = .agg #[.int .i64 x3, .int .i64 y3, .int .i64 x4, .int .i64 y4] := (by rw [hρ]; exact hd.get 0 _ rfl rfl); have r101 : ρ (.tmp 101) = .agg #[.int .i64 x3, .int .i64 y3] := (by rw [hρ]; exact hd.get 1 _ rfl rfl); have rf : ∀ f, ρ (.func f) = .func (.func f) #[] #[] := (by subst hρ; exact fun _ => rfl); clear hρ hd
              (go_simp; (try (first | exact wrap_in _ (by omega) (by omega) | exact HZ.out | exact HN.out | rw [if_pos HZ.out.1, if_pos HZ.out.2])))
            refine FSteps.cons (FStep.value (.bool true) (fun _ _ _ => wanted_none rfl) (fun _ _ => rfl) (fun _ => rfl) (fun u w hW hC (hd : After _ _ u w) ρ hρ => ?_)) ?_
            · have r98 : ρ (.tmp 98) = .bool true := (by rw [hρ]; exact hd.get 0 _ rfl rfl); have r102 : ρ (.tmp 102) = .bool true := (by rw [hρ]; exact hd.get 1 _ rfl rfl); have rc : ∀ v, ρ (.const v) = v := (by subst hρ; exact fun _ => rfl); clear hρ hd
              (go_simp; (try (first | exact wrap_in _ (by omega) (by omega) | exact HZ.out | exact HN.out | rw [if_pos HZ.out.1, if_pos HZ.out.2])))
            refine FSteps.cons (FStep.value (.bool true) (fun _ _ _ => wanted_none rfl) (fun _ _ => rfl) (fun _ => rfl) (fun u w hW hC (hd : After _ _ u w) ρ hρ => ?_)) ?_
            · have r103 : ρ (.tmp 103) = .bool true := (by rw [hρ]; exact hd.get 0 _ rfl rfl); clear hρ hd
              (go_simp; (try (first | exact wrap_in _ (by omega) (by omega) | exact HZ.out | exact HN.out | rw [if_pos HZ.out.1, if_pos HZ.out.2])))
            exact FSteps.nil
          case hV2 => (simp only [List.forall_mem_cons]; simp [stable_is])
          case fin2 =>
            intro u w2 hW2 hC2 hd
            have e83 : u 83 = .bool true := AllV.get _ 0 83 u w2 _ hd rfl
            clear hd
            refine then_normal ?_
            go_step
            refine wp_ret ?_
            refine bodyPost_ret (results_tmp rfl _ _ _) rfl ?_
            refine ⟨congrArg Ending.returned e83, Below.trans hx1 (Below.mono (show Ext w1 _ by (repeat (first | exact Ext.refl _ | assumption | apply Ext.alloc | apply Ext.drew | apply Ext.drewN | (refine Ext.trans ?_ (by assumption))))).below hx1.size)⟩
      · obtain rfl := hcm rfl
        clear hcm
        go_wp2_with fail
        refine (LatticeSteps_at _ _ _ _ _ _ F9.out).mono ?_
        rintro e wz ⟨rfl, hbt⟩
        have hcc := HB.out wz (by (repeat (first | exact Ext.refl _ | assumption | apply Ext.alloc | apply Ext.drew | apply Ext.drewN | (refine Ext.trans ?_ (by assumption)))))
        have HX : Hid (∀ w', Ext (wz.alloc (.cells #[.int .i64 x4, .int .i64 y4, .int .i64 x3, .int .i64 y3] 32)) w' → w'.cell? ⟨wz.heap.size, 0, none⟩ = some (.int .i64 x4) ∧ w'.cell? ⟨wz.heap.size, 1, none⟩ = some (.int .i64 y4) ∧ w'.cell? ⟨wz.heap.size, 2, none⟩ = some (.int .i64 x3) ∧ w'.cell? ⟨wz.heap.size, 3, none⟩ = some (.int .i64 y3) ∧ wz.heap.size < w'.heap.size) := fun w' hx => by
          and_intros <;> (first | (have hz := hx.size; simp at hz; omega) | ((first | rw [hx.cells _ _ (by first | (simp; done) | (simp; omega))] | rw [hx.frozens _ _ (by first | (simp; done) | (simp; omega))]); (first | (simp [go_sem]; done) | (simp [go_sem, World.cell?_alloc_past]; done) | (simp [go_sem, World.frozen?]; done))))
        go_wp2
        simp only [List.append_eq, List.cons_append, List.nil_append]
        refine wp_flow (by kernel_rfl) (by kernel_rfl) (fun u => ⟨#[_, _, u 83, _, _, _, _, _, _, _, _, _, _, _, _, _, _, _, _, _, _, u 0, u 1, u 2, u 3, u 4, u 5, u 6, u 7, u 8, u 9, u 10, u 11, u 12, u 13, u 14, u 15, u 16, u 17, u 18, u 19, u 20, u 21, u 22, u 23, u 24, u 25, u 26, u 27, u 28, u 29, u 30, u 31, u 32, u 33, u 34, u 35, u 36, u 37, u 38, u 39, u 40, u 41, u 42, u 43, u 44, u 45, u 46, u 47, u 48, u 49, u 50, u 51, u 52, u 53, u 54, u 55, u 56, u 57, u 58, u 59, u 60, u 61, u 62, u 63, u 64, u 65, u 66, u 67, u 68, u 69, u 70, u 71, u 72, u 73, u 74, u 75, u 76, u 77, u 78, u 79, u 80, u 81, u 82], _⟩) (fun i => List.getD [_, _, _, _, _, _, _, _, _, _, _, _, _, _, _, _, _, _, _, _, _, _, _, _, _, _, _, _, _, _, _, _, _, _, _, _, _, _, _, _, _, _, _, _, _, _, _, _, _, _, _, _, _, _, _, _, _, _, _, _, _, _, _, _, _, _, _, _, _, _, _, _, _, _, _, _, _, _, _, _, _, _, _, _] i undef) [is (.agg #[.int .i64 x1, .int .i64 y1, .int .i64 x2, .int .i64 y2]), is (.agg #[.int .i64 x3, .int .i64 y3, .int .i64 x4, .int .i64 y4]), is (.bool true), is (.agg #[.int .i64 x3, .int .i64 y3, .int .i64 x4, .int .i64 y4]), is (.agg #[.int .i64 x1, .int .i64 y1, .int .i64 x2, .int .i64 y2]), is (.bool true), is (.bool true), is (.bool true), is (.agg #[.int .i64 x1, .int .i64 y1, .int .i64 x2, .int .i64 y2]), is (.agg #[.int .i64 x3, .int .i64 y3, .int .i64 x4, .int .i64 y4]), is (.bool true), is (.agg #[.int .i64 x3, .int .i64 y3, .int .i64 x4, .int .i64 y4]), is (.agg #[.int .i64 x1, .int .i64 y1, .int .i64 x2, .int .i64 y2]), is (.bool true), is (.bool true), is (.bool true), is (.bool true), is (.agg #[.int .i64 x1, .int .i64 y1, .int .i64 x2, .int .i64 y2]), is (.agg #[.int .i64 x3, .int .i64 y3, .int .i64 x4, .int .i64 y4]), is (.bool true), is (.bool false), is (.bool false), is (.agg #[.int .i64 x1, .int .i64 y1, .int .i64 x2, .int .i64 y2]), is (.agg #[.int .i64 x3, .int .i64 y3, .int .i64 x4, .int .i64 y4]), is (.bool true), is (.bool true), is (.bool true), is (.bool true), is (.pointer (some ⟨w1.heap.size, 2, none⟩)), is (.agg #[.int .i64 x2, .int .i64 y2]), is (.pointer (some ⟨w1.heap.size + 1, 0, none⟩)), is (.agg #[.int .i64 x3, .int .i64 y3]), is (.bool true), is (.bool true), is (undef), is (undef), is (undef), is (undef), is (undef), is (undef), is (undef), is (undef), is (undef), is (.bool true), is (.bool true), is (.bool true), is (.int .i64 (n)), is (.bool true), is (.bool true), is (.bool true), is (.int .i64 (n)), is (.bool true), is (.bool true), is (.bool true), is (.agg #[.int .i64 x3, .int .i64 y3, .int .i64 x4, .int .i64 y4]), is (.int .i64 (q)), is (.int .i64 (n)), is (.int .i64 (n)), is (.int .i64 (nn)), is (.int .i64 (0)), is (.bool true), is (.bool true), is (.bool true), is (.agg #[.int .i64 x4, .int .i64 y4, .int .i64 x3, .int .i64 y3]), is (.int .i64 (n)), is (.int .i64 (n)), is (.bool true), is (.bool true), is (.bool true), is (.agg #[.int .i64 x1, .int .i64 y1, .int .i64 x2, .int .i64 y2]), is (.agg #[.int .i64 x4, .int .i64 y4, .int .i64 x3, .int .i64 y3]), is (.bool true), is (.agg #[.int .i64 x1, .int .i64 y1, .int .i64 x2, .int .i64 y2]), is (.agg #[.int .i64 x3, .int .i64 y3, .int .i64 x4, .int .i64 y4]), is (.bool true), is (.bool true), is (.bool true), is (.bool true), is (.agg #[.int .i64 x3, .int .i64 y3, .int .i64 x4, .int .i64 y4]), is (.pointer (some ⟨w1.heap.size + 1, 0, none⟩)), is (.agg #[.int .i64 x3, .int .i64 y3]), is (.bool true), is (.bool true), is (.bool true)] (fun w' => w'.cell? ⟨w1.heap.size, 0, none⟩ = some (.int .i64 x1) ∧ w'.cell? ⟨w1.heap.size, 1, none⟩ = some (.int .i64 y1) ∧ w'.cell? ⟨w1.heap.size, 2, none⟩ = some (.int .i64 x2) ∧ w'.cell? ⟨w1.heap.size, 3, none⟩ = some (.int .i64 y2) ∧ w1.heap.size < w'.heap.size ∧ w'.cell? ⟨w1.heap.size + 1, 0, none⟩ = some (.int .i64 x3) ∧ w'.cell? ⟨w1.heap.size + 1, 1, none⟩ = some (.int .i64 y3) ∧ w'.cell? ⟨w1.heap.size + 1, 2, none⟩ = some (.int .i64 x4) ∧ w'.cell? ⟨w1.heap.size + 1, 3, none⟩ = some (.int .i64 y4) ∧ w1.heap.size + 1 < w'.heap.size ∧ w'.cell? ⟨wz.heap.size, 0, none⟩ = some (.int .i64 x4) ∧ w'.cell? ⟨wz.heap.size, 1, none⟩ = some (.int .i64 y4) ∧ w'.cell? ⟨wz.heap.size, 2, none⟩ = some (.int .i64 x3) ∧ w'.cell? ⟨wz.heap.size, 3, none⟩ = some (.int .i64 y3) ∧ wz.heap.size < w'.heap.size) _ rfl ?hC3 ?hs3 ?hV3 ?fin3
        case hC3 => exact fun w' hx => (by have hq : Ext _ w' := hx; have hf0 := HB.out w' (by (repeat (first | exact Ext.refl _ | assumption | apply Ext.alloc | apply Ext.drew | apply Ext.drewN | (refine Ext.trans ?_ (by assumption))))); have hf1 := HX.out w' (by (repeat (first | exact Ext.refl _ | assumption | apply Ext.alloc | apply Ext.drew | apply Ext.drewN | (refine Ext.trans ?_ (by assumption))))); and_intros <;> first | exact hf0 | exact hf0.1 | exact hf0.2.1 | exact hf0.2.2.1 | exact hf0.2.2.2.1 | exact hf0.2.2.2.2.1 | exact hf0.2.2.2.2.2.1 | exact hf0.2.2.2.2.2.2.1 | exact hf0.2.2.2.2.2.2.2.1 | exact hf0.2.2.2.2.2.2.2.2.1 | exact hf0.2.2.2.2.2.2.2.2.2.1 | exact hf0.2.2.2.2.2.2.2.2.2.2.1 | exact hf0.2.2.2.2.2.2.2.2.2.2.2.1 | exact hf0.2.2.2.2.2.2.2.2.2.2.2.2.1 | exact hf0.2.2.2.2.2.2.2.2.2.2.2.2.2.1 | exact hf0.2 | exact hf0.2.2 | exact hf0.2.2.2 | exact hf0.2.2.2.2 | exact hf0.2.2.2.2.2 | exact hf0.2.2.2.2.2.2 | exact hf0.2.2.2.2.2.2.2 | exact hf0.2.2.2.2.2.2.2.2 | exact hf0.2.2.2.2.2.2.2.2.2 | exact hf0.2.2.2.2.2.2.2.2.2.2 | exact hf0.2.2.2.2.2.2.2.2.2.2.2 | exact hf0.2.2.2.2.2.2.2.2.2.2.2.2 | exact hf0.2.2.2.2.2.2.2.2.2.2.2.2.2 | exact hf1 | exact hf1.1 | exact hf1.2.1 | exact hf1.2.2.1 | exact hf1.2.2.2.1 | exact hf1.2.2.2.2.1 | exact hf1.2.2.2.2.2.1 | exact hf1.2.2.2.2.2.2.1 | exact hf1.2.2.2.2.2.2.2.1 | exact hf1.2.2.2.2.2.2.2.2.1 | exact hf1.2.2.2.2.2.2.2.2.2.1 | exact hf1.2.2.2.2.2.2.2.2.2.2.1 | exact hf1.2.2.2.2.2.2.2.2.2.2.2.1 | exact hf1.2.2.2.2.2.2.2.2.2.2.2.2.1 | exact hf1.2.2.2.2.2.2.2.2.2.2.2.2.2.1 | exact hf1.2 | exact hf1.2.2 | exact hf1.2.2.2 | exact hf1.2.2.2.2 | exact hf1.2.2.2.2.2 | exact hf1.2.2.2.2.2.2 | exact hf1.2.2.2.2.2.2.2 | exact hf1.2.2.2.2.2.2.2.2 | exact hf1.2.2.2.2.2.2.2.2.2 | exact hf1.2.2.2.2.2.2.2.2.2.2 | exact hf1.2.2.2.2.2.2.2.2.2.2.2 | exact hf1.2.2.2.2.2.2.2.2.2.2.2.2 | exact hf1.2.2.2.2.2.2.2.2.2.2.2.2.2)
        case hs3 =>
          refine FSteps.cons (FStep.value (.agg #[.int .i64 x1, .int .i64 y1, .int .i64 x2, .int .i64 y2]) (fun _ _ _ => wanted_none rfl) (fun _ _ => rfl) (fun _ => rfl) (fun u w hW hC (hd : After _ _ u w) ρ hρ => ?_)) ?_
          · have r3 : ρ (.tmp 3) = .pointer (some ⟨w1.heap.size, 0, none⟩) := (by subst hρ; rfl); clear hρ hd
            (go_simp; (try (first | exact wrap_in _ (by omega) (by omega) | exact HZ.out | exact HN.out | rw [if_pos HZ.out.1, if_pos HZ.out.2])))
          refine FSteps.cons (FStep.value (.agg #[.int .i64 x3, .int .i64 y3, .int .i64 x4, .int .i64 y4]) (fun _ _ _ => wanted_none rfl) (fun _ _ => rfl) (fun _ => rfl) (fun u w hW hC (hd : After _ _ u w) ρ hρ => ?_)) ?_
          · have r4 : ρ (.tmp 4) = .pointer (some ⟨w1.heap.size + 1, 0, none⟩) := (by subst hρ; rfl); clear hρ hd
            (go_simp; (try (first | exact wrap_in _ (by omega) (by omega) | exact HZ.out | exact HN.out | rw [if_pos HZ.out.1, if_pos HZ.out.2])))
          refine FSteps.cons (FStep.call (.bool true) _ #[.agg #[.int .i64 x1, .int .i64 y1, .int .i64 x2, .int .i64 y2], .agg #[.int .i64 x3, .int .i64 y3, .int .i64 x4, .int .i64 y4]] (fun _ _ _ => wanted_none rfl) (fun _ _ => rfl) (fun _ => rfl) (fun u w hW hC (hd : After _ _ u w) ρ hρ => ?_) (fun w => DoCross_at _ _ _ _ _ _ _ _ _ w F1.out)) ?_
          · have r21 : ρ (.tmp 21) = .agg #[.int .i64 x1, .int .i64 y1, .int .i64 x2, .int .i64 y2] := (by rw [hρ]; exact hd.get 0 _ rfl rfl); have r22 : ρ (.tmp 22) = .agg #[.int .i64 x3, .int .i64 y3, .int .i64 x4, .int .i64 y4] := (by rw [hρ]; exact hd.get 1 _ rfl rfl); have rf : ∀ f, ρ (.func f) = .func (.func f) #[] #[] := (by subst hρ; exact fun _ => rfl); clear hρ hd
            (go_simp; (try (first | exact wrap_in _ (by omega) (by omega) | exact HZ.out | exact HN.out | rw [if_pos HZ.out.1, if_pos HZ.out.2])))
          refine FSteps.cons (FStep.value (.agg #[.int .i64 x3, .int .i64 y3, .int .i64 x4, .int .i64 y4]) (fun _ _ _ => wanted_none rfl) (fun _ _ => rfl) (fun _ => rfl) (fun u w hW hC (hd : After _ _ u w) ρ hρ => ?_)) ?_
          · have r4 : ρ (.tmp 4) = .pointer (some ⟨w1.heap.size + 1, 0, none⟩) := (by subst hρ; rfl); clear hρ hd
            (go_simp; (try (first | exact wrap_in _ (by omega) (by omega) | exact HZ.out | exact HN.out | rw [if_pos HZ.out.1, if_pos HZ.out.2])))
          refine FSteps.cons (FStep.value (.agg #[.int .i64 x1, .int .i64 y1, .int .i64 x2, .int .i64 y2]) (fun _ _ _ => wanted_none rfl) (fun _ _ => rfl) (fun _ => rfl) (fun u w hW hC (hd : After _ _ u w) ρ hρ => ?_)) ?_
          · have r3 : ρ (.tmp 3) = .pointer (some ⟨w1.heap.size, 0, none⟩) := (by subst hρ; rfl); clear hρ hd
            (go_simp; (try (first | exact wrap_in _ (by omega) (by omega) | exact HZ.out | exact HN.out | rw [if_pos HZ.out.1, if_pos HZ.out.2])))
          refine FSteps.cons (FStep.call (.bool true) _ #[.agg #[.int .i64 x3, .int .i64 y3, .int .i64 x4, .int .i64 y4], .agg #[.int .i64 x1, .int .i64 y1, .int .i64 x2, .int .i64 y2]] (fun _ _ _ => wanted_none rfl) (fun _ _ => rfl) (fun _ => rfl) (fun u w hW hC (hd : After _ _ u w) ρ hρ => ?_) (fun w => DoCross_at _ _ _ _ _ _ _ _ _ w F2.out)) ?_
          · have r24 : ρ (.tmp 24) = .agg #[.int .i64 x3, .int .i64 y3, .int .i64 x4, .int .i64 y4] := (by rw [hρ]; exact hd.get 0 _ rfl rfl); have r25 : ρ (.tmp 25) = .agg #[.int .i64 x1, .int .i64 y1, .int .i64 x2, .int .i64 y2] := (by rw [hρ]; exact hd.get 1 _ rfl rfl); have rf : ∀ f, ρ (.func f) = .func (.func f) #[] #[] := (by subst hρ; exact fun _ => rfl); clear hρ hd
            (go_simp; (try (first | exact wrap_in _ (by omega) (by omega) | exact HZ.out | exact HN.out | rw [if_pos HZ.out.1, if_pos HZ.out.2])))
          refine FSteps.cons (FStep.value (.bool true) (fun _ _ _ => wanted_none rfl) (fun _ _ => rfl) (fun _ => rfl) (fun u w hW hC (hd : After _ _ u w) ρ hρ => ?_)) ?_
          · have r23 : ρ (.tmp 23) = .bool true := (by rw [hρ]; exact hd.get 0 _ rfl rfl); have r26 : ρ (.tmp 26) = .bool true := (by rw [hρ]; exact hd.get 1 _ rfl rfl); clear hρ hd
            (go_simp; (try (first | exact wrap_in _ (by omega) (by omega) | exact HZ.out | exact HN.out | rw [if_pos HZ.out.1, if_pos HZ.out.2])))
          refine FSteps.cons (FStep.value (.bool true) (fun _ _ _ => wanted_none rfl) (fun _ _ => rfl) (fun _ => rfl) (fun u w hW hC (hd : After _ _ u w) ρ hρ => ?_)) ?_
          · have r27 : ρ (.tmp 27) = .bool true := (by rw [hρ]; exact hd.get 0 _ rfl rfl); clear hρ hd
            (go_simp; (try (first | exact wrap_in _ (by omega) (by omega) | exact HZ.out | exact HN.out | rw [if_pos HZ.out.1, if_pos HZ.out.2])))
          refine FSteps.cons (FStep.value (.agg #[.int .i64 x1, .int .i64 y1, .int .i64 x2, .int .i64 y2]) (fun u w hd => wanted_on 7 28 true rfl rfl (congrArg some (hd.get 0 _ rfl rfl))) (fun _ _ => rfl) (fun _ => rfl) (fun u w hW hC (hd : After _ _ u w) ρ hρ => ?_)) ?_
          · have r3 : ρ (.tmp 3) = .pointer (some ⟨w1.heap.size, 0, none⟩) := (by subst hρ; rfl); clear hρ hd
            (go_simp; (try (first | exact wrap_in _ (by omega) (by omega) | exact HZ.out | exact HN.out | rw [if_pos HZ.out.1, if_pos HZ.out.2])))
          refine FSteps.cons (FStep.value (.agg #[.int .i64 x3, .int .i64 y3, .int .i64 x4, .int .i64 y4]) (fun u w hd => wanted_on 7 28 true rfl rfl (congrArg some (hd.get 0 _ rfl rfl))) (fun _ _ => rfl) (fun _ => rfl) (fun u w hW hC (hd : After _ _ u w) ρ hρ => ?_)) ?_
          · have r4 : ρ (.tmp 4) = .pointer (some ⟨w1.heap.size + 1, 0, none⟩) := (by subst hρ; rfl); clear hρ hd
            (go_simp; (try (first | exact wrap_in _ (by omega) (by omega) | exact HZ.out | exact HN.out | rw [if_pos HZ.out.1, if_pos HZ.out.2])))
          refine FSteps.cons (FStep.call (.bool true) _ #[.agg #[.int .i64 x1, .int .i64 y1, .int .i64 x2, .int .i64 y2], .agg #[.int .i64 x3, .int .i64 y3, .int .i64 x4, .int .i64 y4]] (fun u w hd => wanted_on 7 28 true rfl rfl (congrArg some (hd.get 2 _ rfl rfl))) (fun _ _ => rfl) (fun _ => rfl) (fun u w hW hC (hd : After _ _ u w) ρ hρ => ?_) (fun w => DoMeet_at _ _ _ _ _ _ _ _ _ w F3.out)) ?_
          · have r29 : ρ (.tmp 29) = .agg #[.int .i64 x1, .int .i64 y1, .int .i64 x2, .int .i64 y2] := (by rw [hρ]; exact hd.get 0 _ rfl rfl); have r30 : ρ (.tmp 30) = .agg #[.int .i64 x3, .int .i64 y3, .int .i64 x4, .int .i64 y4] := (by rw [hρ]; exact hd.get 1 _ rfl rfl); have rf : ∀ f, ρ (.func f) = .func (.func f) #[] #[] := (by subst hρ; exact fun _ => rfl); clear hρ hd
            (go_simp; (try (first | exact wrap_in _ (by omega) (by omega) | exact HZ.out | exact HN.out | rw [if_pos HZ.out.1, if_pos HZ.out.2])))
          refine FSteps.cons (FStep.value (.agg #[.int .i64 x3, .int .i64 y3, .int .i64 x4, .int .i64 y4]) (fun u w hd => wanted_on 7 28 true rfl rfl (congrArg some (hd.get 0 _ rfl rfl))) (fun _ _ => rfl) (fun _ => rfl) (fun u w hW hC (hd : After _ _ u w) ρ hρ => ?_)) ?_
          · have r4 : ρ (.tmp 4) = .pointer (some ⟨w1.heap.size + 1, 0, none⟩) := (by subst hρ; rfl); clear hρ hd
            (go_simp; (try (first | exact wrap_in _ (by omega) (by omega) | exact HZ.out | exact HN.out | rw [if_pos HZ.out.1, if_pos HZ.out.2])))
          refine FSteps.cons (FStep.value (.agg #[.int .i64 x1, .int .i64 y1, .int .i64 x2, .int .i64 y2]) (fun u w hd => wanted_on 7 28 true rfl rfl (congrArg some (hd.get 0 _ rfl rfl))) (fun _ _ => rfl) (fun _ => rfl) (fun u w hW hC (hd : After _ _ u w) ρ hρ => ?_)) ?_
          · have r3 : ρ (.tmp 3) = .pointer (some ⟨w1.heap.size, 0, none⟩) := (by subst hρ; rfl); clear hρ hd
            (go_simp; (try (first | exact wrap_in _ (by omega) (by omega) | exact HZ.out | exact HN.out | rw [if_pos HZ.out.1, if_pos HZ.out.2])))
          refine FSteps.cons (FStep.call (.bool true) _ #[.agg #[.int .i64 x3, .int .i64 y3, .int .i64 x4, .int .i64 y4], .agg #[.int .i64 x1, .int .i64 y1, .int .i64 x2, .int .i64 y2]] (fun u w hd => wanted_on 7 28 true rfl rfl (congrArg some (hd.get 3 _ rfl rfl))) (fun _ _ => rfl) (fun _ => rfl) (fun u w hW hC (hd : After _ _ u w) ρ hρ => ?_) (fun w => DoMeet_at _ _ _ _ _ _ _ _ _ w F4.out)) ?_
          · have r32 : ρ (.tmp 32) = .agg #[.int .i64 x3, .int .i64 y3, .int .i64 x4, .int .i64 y4] := (by rw [hρ]; exact hd.get 0 _ rfl rfl); have r33 : ρ (.tmp 33) = .agg #[.int .i64 x1, .int .i64 y1, .int .i64 x2, .int .i64 y2] := (by rw [hρ]; exact hd.get 1 _ rfl rfl); have rf : ∀ f, ρ (.func f) = .func (.func f) #[] #[] := (by subst hρ; exact fun _ => rfl); clear hρ hd
            (go_simp; (try (first | exact wrap_in _ (by omega) (by omega) | exact HZ.out | exact HN.out | rw [if_pos HZ.out.1, if_pos HZ.out.2])))
          refine FSteps.cons (FStep.value (.bool true) (fun u w hd => wanted_on 7 28 true rfl rfl (congrArg some (hd.get 2 _ rfl rfl))) (fun _ _ => rfl) (fun _ => rfl) (fun u w hW hC (hd : After _ _ u w) ρ hρ => ?_)) ?_
          · have r31 : ρ (.tmp 31) = .bool true := (by rw [hρ]; exact hd.get 0 _ rfl rfl); have r34 : ρ (.tmp 34) = .bool true := (by rw [hρ]; exact hd.get 1 _ rfl rfl); clear hρ hd
            (go_simp; (try (first | exact wrap_in _ (by omega) (by omega) | exact HZ.out | exact HN.out | rw [if_pos HZ.out.1, if_pos HZ.out.2])))
          refine FSteps.cons (FStep.value (.bool true) (fun _ _ _ => wanted_none rfl) (fun _ _ => rfl) (fun _ => rfl) (fun u w hW hC (hd : After _ _ u w) ρ hρ => ?_)) ?_
          · have r28 : ρ (.tmp 28) = .bool true := (by rw [hρ]; exact hd.get 0 _ rfl rfl); have r35 : ρ (.tmp 35) = .bool true := (by rw [hρ]; exact hd.get 1 _ rfl rfl); have rc : ∀ v, ρ (.const v) = v := (by subst hρ; exact fun _ => rfl); clear hρ hd
            (go_simp; (try (first | exact wrap_in _ (by omega) (by omega) | exact HZ.out | exact HN.out | rw [if_pos HZ.out.1, if_pos HZ.out.2])))
          refine FSteps.cons (FStep.value (.bool true) (fun _ _ _ => wanted_none rfl) (fun _ _ => rfl) (fun _ => rfl) (fun u w hW hC (hd : After _ _ u w) ρ hρ => ?_)) ?_
          · have r36 : ρ (.tmp 36) = .bool true := (by rw [hρ]; exact hd.get 0 _ rfl rfl); clear hρ hd
            (go_simp; (try (first | exact wrap_in _ (by omega) (by omega) | exact HZ.out | exact HN.out | rw [if_pos HZ.out.1, if_pos HZ.out.2])))
          refine FSteps.cons (FStep.value (.agg #[.int .i64 x1, .int .i64 y1, .int .i64 x2, .int .i64 y2]) (fun u w hd => wanted_on 16 37 true rfl rfl (congrArg some (hd.get 0 _ rfl rfl))) (fun _ _ => rfl) (fun _ => rfl) (fun u w hW hC (hd : After _ _ u w) ρ hρ => ?_)) ?_
          · have r3 : ρ (.tmp 3) = .pointer (some ⟨w1.heap.size, 0, none⟩) := (by subst hρ; rfl); clear hρ hd
            (go_simp; (try (first | exact wrap_in _ (by omega) (by omega) | exact HZ.out | exact HN.out | rw [if_pos HZ.out.1, if_pos HZ.out.2])))
          refine FSteps.cons (FStep.value (.agg #[.int .i64 x3, .int .i64 y3, .int .i64 x4, .int .i64 y4]) (fun u w hd => wanted_on 16 37 true rfl rfl (congrArg some (hd.get 0 _ rfl rfl))) (fun _ _ => rfl) (fun _ => rfl) (fun u w hW hC (hd : After _ _ u w) ρ hρ => ?_)) ?_
          · have r4 : ρ (.tmp 4) = .pointer (some ⟨w1.heap.size + 1, 0, none⟩) := (by subst hρ; rfl); clear hρ hd
            (go_simp; (try (first | exact wrap_in _ (by omega) (by omega) | exact HZ.out | exact HN.out | rw [if_pos HZ.out.1, if_pos HZ.out.2])))
          refine FSteps.cons (FStep.call (.bool true) _ #[.agg #[.int .i64 x1, .int .i64 y1, .int .i64 x2, .int .i64 y2], .agg #[.int .i64 x3, .int .i64 y3, .int .i64 x4, .int .i64 y4]] (fun u w hd => wanted_on 16 37 true rfl rfl (congrArg some (hd.get 2 _ rfl rfl))) (fun _ _ => rfl) (fun _ => rfl) (fun u w hW hC (hd : After _ _ u w) ρ hρ => ?_) (fun w => DoCross_at _ _ _ _ _ _ _ _ _ w F1.out)) ?_
          · have r38 : ρ (.tmp 38) = .agg #[.int .i64 x1, .int .i64 y1, .int .i64 x2, .int .i64 y2] := (by rw [hρ]; exact hd.get 0 _ rfl rfl); have r39 : ρ (.tmp 39) = .agg #[.int .i64 x3, .int .i64 y3, .int .i64 x4, .int .i64 y4] := (by rw [hρ]; exact hd.get 1 _ rfl rfl); have rf : ∀ f, ρ (.func f) = .func (.func f) #[] #[] := (by subst hρ; exact fun _ => rfl); clear hρ hd
            (go_simp; (try (first | exact wrap_in _ (by omega) (by omega) | exact HZ.out | exact HN.out | rw [if_pos HZ.out.1, if_pos HZ.out.2])))
          refine FSteps.cons (FStep.value (.bool false) (fun u w hd => wanted_on 16 37 true rfl rfl (congrArg some (hd.get 1 _ rfl rfl))) (fun _ _ => rfl) (fun _ => rfl) (fun u w hW hC (hd : After _ _ u w) ρ hρ => ?_)) ?_
          · have r40 : ρ (.tmp 40) = .bool true := (by rw [hρ]; exact hd.get 0 _ rfl rfl); clear hρ hd
            (go_simp; (try (first | exact wrap_in _ (by omega) (by omega) | exact HZ.out | exact HN.out | rw [if_pos HZ.out.1, if_pos HZ.out.2])))
          refine FSteps.cons (FStep.value (.bool false) (fun u w hd => wanted_on 16 37 true rfl rfl (congrArg some (hd.get 2 _ rfl rfl))) (fun _ _ => rfl) (fun _ => rfl) (fun u w hW hC (hd : After _ _ u w) ρ hρ => ?_)) ?_
          · have r41 : ρ (.tmp 41) = .bool false := (by rw [hρ]; exact hd.get 0 _ rfl rfl); clear hρ hd
            (go_simp; (try (first | exact wrap_in _ (by omega) (by omega) | exact HZ.out | exact HN.out | rw [if_pos HZ.out.1, if_pos HZ.out.2])))
          refine FSteps.cons (FStep.value (.agg #[.int .i64 x1, .int .i64 y1, .int .i64 x2, .int .i64 y2]) (fun u w hd => wanted_on 21 42 false rfl rfl (congrArg some (hd.get 0 _ rfl rfl))) (fun _ _ => rfl) (fun _ => rfl) (fun u w hW hC (hd : After _ _ u w) ρ hρ => ?_)) ?_
          · have r3 : ρ (.tmp 3) = .pointer (some ⟨w1.heap.size, 0, none⟩) := (by subst hρ; rfl); clear hρ hd
            (go_simp; (try (first | exact wrap_in _ (by omega) (by omega) | exact HZ.out | exact HN.out | rw [if_pos HZ.out.1, if_pos HZ.out.2])))
          refine FSteps.cons (FStep.value (.agg #[.int .i64 x3, .int .i64 y3, .int .i64 x4, .int .i64 y4]) (fun u w hd => wanted_on 21 42 false rfl rfl (congrArg some (hd.get 0 _ rfl rfl))) (fun _ _ => rfl) (fun _ => rfl) (fun u w hW hC (hd : After _ _ u w) ρ hρ => ?_)) ?_
          · have r4 : ρ (.tmp 4) = .pointer (some ⟨w1.heap.size + 1, 0, none⟩) := (by subst hρ; rfl); clear hρ hd
            (go_simp; (try (first | exact wrap_in _ (by omega) (by omega) | exact HZ.out | exact HN.out | rw [if_pos HZ.out.1, if_pos HZ.out.2])))
          refine FSteps.cons (FStep.call (.bool true) _ #[.agg #[.int .i64 x1, .int .i64 y1, .int .i64 x2, .int .i64 y2], .agg #[.int .i64 x3, .int .i64 y3, .int .i64 x4, .int .i64 y4]] (fun u w hd => wanted_on 21 42 false rfl rfl (congrArg some (hd.get 2 _ rfl rfl))) (fun _ _ => rfl) (fun _ => rfl) (fun u w hW hC (hd : After _ _ u w) ρ hρ => ?_) (fun w => DoMeet_at _ _ _ _ _ _ _ _ _ w F3.out)) ?_
          · have r43 : ρ (.tmp 43) = .agg #[.int .i64 x1, .int .i64 y1, .int .i64 x2, .int .i64 y2] := (by rw [hρ]; exact hd.get 0 _ rfl rfl); have r44 : ρ (.tmp 44) = .agg #[.int .i64 x3, .int .i64 y3, .int .i64 x4, .int .i64 y4] := (by rw [hρ]; exact hd.get 1 _ rfl rfl); have rf : ∀ f, ρ (.func f) = .func (.func f) #[] #[] := (by subst hρ; exact fun _ => rfl); clear hρ hd
            (go_simp; (try (first | exact wrap_in _ (by omega) (by omega) | exact HZ.out | exact HN.out | rw [if_pos HZ.out.1, if_pos HZ.out.2])))
          refine FSteps.cons (FStep.value (.bool true) (fun u w hd => wanted_on 16 37 true rfl rfl (congrArg some (hd.get 2 _ rfl rfl))) (fun _ _ => rfl) (fun _ => rfl) (fun u w hW hC (hd : After _ _ u w) ρ hρ => ?_)) ?_
          · have r42 : ρ (.tmp 42) = .bool false := (by rw [hρ]; exact hd.get 0 _ rfl rfl); have r45 : ρ (.tmp 45) = .bool true := (by rw [hρ]; exact hd.get 1 _ rfl rfl); have rc : ∀ v, ρ (.const v) = v := (by subst hρ; exact fun _ => rfl); clear hρ hd
            (go_simp; (try (first | exact wrap_in _ (by omega) (by omega) | exact HZ.out | exact HN.out | rw [if_pos HZ.out.1, if_pos HZ.out.2])))
          refine FSteps.cons (FStep.value (.bool true) (fun _ _ _ => wanted_none rfl) (fun _ _ => rfl) (fun _ => rfl) (fun u w hW hC (hd : After _ _ u w) ρ hρ => ?_)) ?_
          · have r37 : ρ (.tmp 37) = .bool true := (by rw [hρ]; exact hd.get 0 _ rfl rfl); have r46 : ρ (.tmp 46) = .bool true := (by rw [hρ]; exact hd.get 1 _ rfl rfl); have rc : ∀ v, ρ (.const v) = v := (by subst hρ; exact fun _ => rfl); clear hρ hd
            (go_simp; (try (first | exact wrap_in _ (by omega) (by omega) | exact HZ.out | exact HN.out | rw [if_pos HZ.out.1, if_pos HZ.out.2])))
          refine FSteps.cons (FStep.value (.bool true) (fun _ _ _ => wanted_none rfl) (fun _ _ => rfl) (fun _ => rfl) (fun u w hW hC (hd : After _ _ u w) ρ hρ => ?_)) ?_
          · have r47 : ρ (.tmp 47) = .bool true := (by rw [hρ]; exact hd.get 0 _ rfl rfl); clear hρ hd
            (go_simp; (try (first | exact wrap_in _ (by omega) (by omega) | exact HZ.out | exact HN.out | rw [if_pos HZ.out.1, if_pos HZ.out.2])))
          refine FSteps.cons (FStep.value (.pointer (some ⟨w1.heap.size, 2, none⟩)) (fun u w hd => wanted_on 27 48 true rfl rfl (congrArg some (hd.get 0 _ rfl rfl))) (fun _ _ => rfl) (fun _ => rfl) (fun u w hW hC (hd : After _ _ u w) ρ hρ => ?_)) ?_
          · have r3 : ρ (.tmp 3) = .pointer (some ⟨w1.heap.size, 0, none⟩) := (by subst hρ; rfl); clear hρ hd
            (go_simp; (try (first | exact wrap_in _ (by omega) (by omega) | exact HZ.out | exact HN.out | rw [if_pos HZ.out.1, if_pos HZ.out.2])))
          refine FSteps.cons (FStep.value (.agg #[.int .i64 x2, .int .i64 y2]) (fun u w hd => wanted_on 27 48 true rfl rfl (congrArg some (hd.get 1 _ rfl rfl))) (fun _ _ => rfl) (fun _ => rfl) (fun u w hW hC (hd : After _ _ u w) ρ hρ => ?_)) ?_
          · have r49 : ρ (.tmp 49) = .pointer (some ⟨w1.heap.size, 2, none⟩) := (by rw [hρ]; exact hd.get 0 _ rfl rfl); clear hρ hd
            (go_simp; (try (first | exact wrap_in _ (by omega) (by omega) | exact HZ.out | exact HN.out | rw [if_pos HZ.out.1, if_pos HZ.out.2])))
          refine FSteps.cons (FStep.value (.pointer (some ⟨w1.heap.size + 1, 0, none⟩)) (fun u w hd => wanted_on 27 48 true rfl rfl (congrArg some (hd.get 0 _ rfl rfl))) (fun _ _ => rfl) (fun _ => rfl) (fun u w hW hC (hd : After _ _ u w) ρ hρ => ?_)) ?_
          · have r4 : ρ (.tmp 4) = .pointer (some ⟨w1.heap.size + 1, 0, none⟩) := (by subst hρ; rfl); clear hρ hd
            (go_simp; (try (first | exact wrap_in _ (by omega) (by omega) | exact HZ.out | exact HN.out | rw [if_pos HZ.out.1, if_pos HZ.out.2])))
          refine FSteps.cons (FStep.value (.agg #[.int .i64 x3, .int .i64 y3]) (fun u w hd => wanted_on 27 48 true rfl rfl (congrArg some (hd.get 1 _ rfl rfl))) (fun _ _ => rfl) (fun _ => rfl) (fun u w hW hC (hd : After _ _ u w) ρ hρ => ?_)) ?_
          · have r51 : ρ (.tmp 51) = .pointer (some ⟨w1.heap.size + 1, 0, none⟩) := (by rw [hρ]; exact hd.get 0 _ rfl rfl); clear hρ hd
            (go_simp; (try (first | exact wrap_in _ (by omega) (by omega) | exact HZ.out | exact HN.out | rw [if_pos HZ.out.1, if_pos HZ.out.2])))
          refine FSteps.cons (FStep.value (.bool true) (fun u w hd => wanted_on 27 48 true rfl rfl (congrArg some (hd.get 2 _ rfl rfl))) (fun _ _ => rfl) (fun _ => rfl) (fun u w hW hC (hd : After _ _ u w) ρ hρ => ?_)) ?_
          · have r50 : ρ (.tmp 50) = .agg #[.int .i64 x2, .int .i64 y2] := (by rw [hρ]; exact hd.get 0 _ rfl rfl); have r52 : ρ (.tmp 52) = .agg #[.int .i64 x3, .int .i64 y3] := (by rw [hρ]; exact hd.get 1 _ rfl rfl); clear hρ hd
            (go_simp; (try (first | exact wrap_in _ (by omega) (by omega) | exact HZ.out | exact HN.out | rw [if_pos HZ.out.1, if_pos HZ.out.2])))
          refine FSteps.cons (FStep.value (.bool true) (fun u w hd => wanted_on 27 48 true rfl rfl (congrArg some (hd.get 1 _ rfl rfl))) (fun _ _ => rfl) (fun _ => rfl) (fun u w hW hC (hd : After _ _ u w) ρ hρ => ?_)) ?_
          · have r53 : ρ (.tmp 53) = .bool true := (by rw [hρ]; exact hd.get 0 _ rfl rfl); clear hρ hd
            (go_simp; (try (first | exact wrap_in _ (by omega) (by omega) | exact HZ.out | exact HN.out | rw [if_pos HZ.out.1, if_pos HZ.out.2])))
          refine FSteps.cons (FStep.off_ 33 54 false rfl rfl (fun u w hd => .inl (congrArg some (After.get (V := vOf _) hd 0 _ rfl rfl))) (fun _ => rfl) (fun _ => rfl)) ?_
          refine FSteps.cons (FStep.off_ 33 54 false rfl rfl (fun u w hd => .inl (congrArg some (After.get (V := vOf _) hd 0 _ rfl rfl))) (fun _ => rfl) (fun _ => rfl)) ?_
          refine FSteps.cons (FStep.off_ 33 54 false rfl rfl (fun u w hd => .inl (congrArg some (After.get (V := vOf _) hd 2 _ rfl rfl))) (fun _ => rfl) (fun _ => rfl)) ?_
          refine FSteps.cons (FStep.off_ 33 54 false rfl rfl (fun u w hd => .inl (congrArg some (After.get (V := vOf _) hd 2 _ rfl rfl))) (fun _ => rfl) (fun _ => rfl)) ?_
          refine FSteps.cons (FStep.off_ 37 58 true rfl rfl (fun u w hd => .inr (congrArg some (After.get (V := vOf _) hd 0 _ rfl rfl))) (fun _ => rfl) (fun _ => rfl)) ?_
          refine FSteps.cons (FStep.off_ 37 58 true rfl rfl (fun u w hd => .inr (congrArg some (After.get (V := vOf _) hd 0 _ rfl rfl))) (fun _ => rfl) (fun _ => rfl)) ?_
          refine FSteps.cons (FStep.off_ 37 58 true rfl rfl (fun u w hd => .inr (congrArg some (After.get (V := vOf _) hd 2 _ rfl rfl))) (fun _ => rfl) (fun _ => rfl)) ?_
          refine FSteps.cons (FStep.off_ 37 58 true rfl rfl (fun u w hd => .inr (congrArg some (After.get (V := vOf _) hd 1 _ rfl rfl))) (fun _ => rfl) (fun _ => rfl)) ?_
          refine FSteps.cons (FStep.off_ 33 54 false rfl rfl (fun u w hd => .inl (congrArg some (After.get (V := vOf _) hd 2 _ rfl rfl))) (fun _ => rfl) (fun _ => rfl)) ?_
          refine FSteps.cons (FStep.value (.bool true) (fun u w hd => wanted_on 27 48 true rfl rfl (congrArg some (hd.get 2 _ rfl rfl))) (fun _ _ => rfl) (fun _ => rfl) (fun u w hW hC (hd : After _ _ u w) ρ hρ => ?_)) ?_
          · have r54 : ρ (.tmp 54) = .bool true := (by rw [hρ]; exact hd.get 0 _ rfl rfl); have r63 : ρ (.tmp 63) = undef := (by rw [hρ]; exact hd.get 1 _ rfl rfl); have rc : ∀ v, ρ (.const v) = v := (by subst hρ; exact fun _ => rfl); clear hρ hd
            (go_simp; (try (first | exact wrap_in _ (by omega) (by omega) | exact HZ.out | exact HN.out | rw [if_pos HZ.out.1, if_pos HZ.out.2])))
          refine FSteps.cons (FStep.value (.bool true) (fun _ _ _ => wanted_none rfl) (fun _ _ => rfl) (fun _ => rfl) (fun u w hW hC (hd : After _ _ u w) ρ hρ => ?_)) ?_
          · have r48 : ρ (.tmp 48) = .bool true := (by rw [hρ]; exact hd.get 0 _ rfl rfl); have r64 : ρ (.tmp 64) = .bool true := (by rw [hρ]; exact hd.get 1 _ rfl rfl); have rc : ∀ v, ρ (.const v) = v := (by subst hρ; exact fun _ => rfl); clear hρ hd
            (go_simp; (try (first | exact wrap_in _ (by omega) (by omega) | exact HZ.out | exact HN.out | rw [if_pos HZ.out.1, if_pos HZ.out.2])))
          refine FSteps.cons (FStep.value (.bool true) (fun _ _ _ => wanted_none rfl) (fun _ _ => rfl) (fun _ => rfl) (fun u w hW hC (hd : After _ _ u w) ρ hρ => ?_)) ?_
          · have r65 : ρ (.tmp 65) = .bool true := (by rw [hρ]; exact hd.get 0 _ rfl rfl); clear hρ hd
            (go_simp; (try (first | exact wrap_in _ (by omega) (by omega) | exact HZ.out | exact HN.out | rw [if_pos HZ.out.1, if_pos HZ.out.2])))
          refine FSteps.cons (FStep.value (.int .i64 (n)) (fun u w hd => wanted_on 45 66 true rfl rfl (congrArg some (hd.get 0 _ rfl rfl))) (fun _ _ => rfl) (fun _ => rfl) (fun u w hW hC (hd : After _ _ u w) ρ hρ => ?_)) ?_
          · have r5 : ρ (.tmp 5) = .int .i64 (n) := (by subst hρ; rfl); clear hρ hd
            (go_simp; (try (first | exact wrap_in _ (by omega) (by omega) | exact HZ.out | exact HN.out | rw [if_pos HZ.out.1, if_pos HZ.out.2])))
          refine FSteps.cons (FStep.value (.bool true) (fun u w hd => wanted_on 45 66 true rfl rfl (congrArg some (hd.get 1 _ rfl rfl))) (fun _ _ => rfl) (fun _ => rfl) (fun u w hW hC (hd : After _ _ u w) ρ hρ => ?_)) ?_
          · have r67 : ρ (.tmp 67) = .int .i64 (n) := (by rw [hρ]; exact hd.get 0 _ rfl rfl); have rc : ∀ v, ρ (.const v) = v := (by subst hρ; exact fun _ => rfl); clear hρ hd
            (go_simp; (try (first | exact wrap_in _ (by omega) (by omega) | exact HZ.out | exact HN.out | rw [if_pos HZ.out.1, if_pos HZ.out.2])))
          refine FSteps.cons (FStep.value (.bool true) (fun _ _ _ => wanted_none rfl) (fun _ _ => rfl) (fun _ => rfl) (fun u w hW hC (hd : After _ _ u w) ρ hρ => ?_)) ?_
          · have r66 : ρ (.tmp 66) = .bool true := (by rw [hρ]; exact hd.get 0 _ rfl rfl); have r68 : ρ (.tmp 68) = .bool true := (by rw [hρ]; exact hd.get 1 _ rfl rfl); have rc : ∀ v, ρ (.const v) = v := (by subst hρ; exact fun _ => rfl); clear hρ hd
            (go_simp; (try (first | exact wrap_in _ (by omega) (by omega) | exact HZ.out | exact HN.out | rw [if_pos HZ.out.1, if_pos HZ.out.2])))
          refine FSteps.cons (FStep.value (.bool true) (fun _ _ _ => wanted_none rfl) (fun _ _ => rfl) (fun _ => rfl) (fun u w hW hC (hd : After _ _ u w) ρ hρ => ?_)) ?_
          · have r69 : ρ (.tmp 69) = .bool true := (by rw [hρ]; exact hd.get 0 _ rfl rfl); clear hρ hd
            (go_simp; (try (first | exact wrap_in _ (by omega) (by omega) | exact HZ.out | exact HN.out | rw [if_pos HZ.out.1, if_pos HZ.out.2])))
          refine FSteps.cons (FStep.value (.int .i64 (n)) (fun u w hd => wanted_on 49 70 true rfl rfl (congrArg some (hd.get 0 _ rfl rfl))) (fun _ _ => rfl) (fun _ => rfl) (fun u w hW hC (hd : After _ _ u w) ρ hρ => ?_)) ?_
          · have r5 : ρ (.tmp 5) = .int .i64 (n) := (by subst hρ; rfl); clear hρ hd
            (go_simp; (try (first | exact wrap_in _ (by omega) (by omega) | exact HZ.out | exact HN.out | rw [if_pos HZ.out.1, if_pos HZ.out.2])))
          refine FSteps.cons (FStep.value (.bool true) (fun u w hd => wanted_on 49 70 true rfl rfl (congrArg some (hd.get 1 _ rfl rfl))) (fun _ _ => rfl) (fun _ => rfl) (fun u w hW hC (hd : After _ _ u w) ρ hρ => ?_)) ?_
          · have r71 : ρ (.tmp 71) = .int .i64 (n) := (by rw [hρ]; exact hd.get 0 _ rfl rfl); have rc : ∀ v, ρ (.const v) = v := (by subst hρ; exact fun _ => rfl); clear hρ hd
            (go_simp; (try (first | exact wrap_in _ (by omega) (by omega) | exact HZ.out | exact HN.out | rw [if_pos HZ.out.1, if_pos HZ.out.2])))
          refine FSteps.cons (FStep.value (.bool true) (fun _ _ _ => wanted_none rfl) (fun _ _ => rfl) (fun _ => rfl) (fun u w hW hC (hd : After _ _ u w) ρ hρ => ?_)) ?_
          · have r70 : ρ (.tmp 70) = .bool true := (by rw [hρ]; exact hd.get 0 _ rfl rfl); have r72 : ρ (.tmp 72) = .bool true := (by rw [hρ]; exact hd.get 1 _ rfl rfl); have rc : ∀ v, ρ (.const v) = v := (by subst hρ; exact fun _ => rfl); clear hρ hd
            (go_simp; (try (first | exact wrap_in _ (by omega) (by omega) | exact HZ.out | exact HN.out | rw [if_pos HZ.out.1, if_pos HZ.out.2])))
          refine FSteps.cons (FStep.value (.bool true) (fun _ _ _ => wanted_none rfl) (fun _ _ => rfl) (fun _ => rfl) (fun u w hW hC (hd : After _ _ u w) ρ hρ => ?_)) ?_
          · have r73 : ρ (.tmp 73) = .bool true := (by rw [hρ]; exact hd.get 0 _ rfl rfl); clear hρ hd
            (go_simp; (try (first | exact wrap_in _ (by omega) (by omega) | exact HZ.out | exact HN.out | rw [if_pos HZ.out.1, if_pos HZ.out.2])))
          refine FSteps.cons (FStep.value (.agg #[.int .i64 x3, .int .i64 y3, .int .i64 x4, .int .i64 y4]) (fun u w hd => wanted_on 53 74 true rfl rfl (congrArg some (hd.get 0 _ rfl rfl))) (fun _ _ => rfl) (fun _ => rfl) (fun u w hW hC (hd : After _ _ u w) ρ hρ => ?_)) ?_
          · have r4 : ρ (.tmp 4) = .pointer (some ⟨w1.heap.size + 1, 0, none⟩) := (by subst hρ; rfl); clear hρ hd
            (go_simp; (try (first | exact wrap_in _ (by omega) (by omega) | exact HZ.out | exact HN.out | rw [if_pos HZ.out.1, if_pos HZ.out.2])))
          refine FSteps.cons (FStep.call (.int .i64 (q)) _ #[.agg #[.int .i64 x3, .int .i64 y3, .int .i64 x4, .int .i64 y4]] (fun u w hd => wanted_on 53 74 true rfl rfl (congrArg some (hd.get 1 _ rfl rfl))) (fun _ _ => rfl) (fun _ => rfl) (fun u w hW hC (hd : After _ _ u w) ρ hρ => ?_) (fun w => LengthSquare_at _ _ _ _ _ w F5.out)) ?_
          · have r75 : ρ (.tmp 75) = .agg #[.int .i64 x3, .int .i64 y3, .int .i64 x4, .int .i64 y4] := (by rw [hρ]; exact hd.get 0 _ rfl rfl); have rf : ∀ f, ρ (.func f) = .func (.func f) #[] #[] := (by subst hρ; exact fun _ => rfl); clear hρ hd
            (go_simp; (try (first | exact wrap_in _ (by omega) (by omega) | exact HZ.out | exact HN.out | rw [if_pos HZ.out.1, if_pos HZ.out.2])))
          refine FSteps.cons (FStep.value (.int .i64 (n)) (fun u w hd => wanted_on 53 74 true rfl rfl (congrArg some (hd.get 0 _ rfl rfl))) (fun _ _ => rfl) (fun _ => rfl) (fun u w hW hC (hd : After _ _ u w) ρ hρ => ?_)) ?_
          · have r5 : ρ (.tmp 5) = .int .i64 (n) := (by subst hρ; rfl); clear hρ hd
            (go_simp; (try (first | exact wrap_in _ (by omega) (by omega) | exact HZ.out | exact HN.out | rw [if_pos HZ.out.1, if_pos HZ.out.2])))
          refine FSteps.cons (FStep.value (.int .i64 (n)) (fun u w hd => wanted_on 53 74 true rfl rfl (congrArg some (hd.get 0 _ rfl rfl))) (fun _ _ => rfl) (fun _ => rfl) (fun u w hW hC (hd : After _ _ u w) ρ hρ => ?_)) ?_
          · have r5 : ρ (.tmp 5) = .int .i64 (n) := (by subst hρ; rfl); clear hρ hd
            (go_simp; (try (first | exact wrap_in _ (by omega) (by omega) | exact HZ.out | exact HN.out | rw [if_pos HZ.out.1, if_pos HZ.out.2])))
          refine FSteps.cons (FStep.value (.int .i64 (nn)) (fun u w hd => wanted_on 53 74 true rfl rfl (congrArg some (hd.get 2 _ rfl rfl))) (fun _ _ => rfl) (fun _ => rfl) (fun u w hW hC (hd : After _ _ u w) ρ hρ => ?_)) ?_
          · have r77 : ρ (.tmp 77) = .int .i64 (n) := (by rw [hρ]; exact hd.get 0 _ rfl rfl); have r78 : ρ (.tmp 78) = .int .i64 (n) := (by rw [hρ]; exact hd.get 1 _ rfl rfl); clear hρ hd
            (go_simp; (try (first | exact wrap_in _ (by omega) (by omega) | exact HZ.out | exact HN.out | rw [if_pos HZ.out.1, if_pos HZ.out.2])))
          refine FSteps.cons (FStep.value (.int .i64 (0)) (fun u w hd => wanted_on 53 74 true rfl rfl (congrArg some (hd.get 2 _ rfl rfl))) (fun _ _ => rfl) (fun _ => rfl) (fun u w hW hC (hd : After _ _ u w) ρ hρ => ?_)) ?_
          · have r76 : ρ (.tmp 76) = .int .i64 (q) := (by rw [hρ]; exact hd.get 0 _ rfl rfl); have r79 : ρ (.tmp 79) = .int .i64 (nn) := (by rw [hρ]; exact hd.get 1 _ rfl rfl); clear hρ hd
            (go_simp; (try (first | exact wrap_in _ (by omega) (by omega) | exact HZ.out | exact HN.out | rw [if_pos HZ.out.1, if_pos HZ.out.2])))
          refine FSteps.cons (FStep.value (.bool true) (fun u w hd => wanted_on 53 74 true rfl rfl (congrArg some (hd.get 1 _ rfl rfl))) (fun _ _ => rfl) (fun _ => rfl) (fun u w hW hC (hd : After _ _ u w) ρ hρ => ?_)) ?_
          · have r80 : ρ (.tmp 80) = .int .i64 (0) := (by rw [hρ]; exact hd.get 0 _ rfl rfl); have rc : ∀ v, ρ (.const v) = v := (by subst hρ; exact fun _ => rfl); clear hρ hd
            (go_simp; (try (first | exact wrap_in _ (by omega) (by omega) | exact HZ.out | exact HN.out | rw [if_pos HZ.out.1, if_pos HZ.out.2])))
          refine FSteps.cons (FStep.value (.bool true) (fun _ _ _ => wanted_none rfl) (fun _ _ => rfl) (fun _ => rfl) (fun u w hW hC (hd : After _ _ u w) ρ hρ => ?_)) ?_
          · have r74 : ρ (.tmp 74) = .bool true := (by rw [hρ]; exact hd.get 0 _ rfl rfl); have r81 : ρ (.tmp 81) = .bool true := (by rw [hρ]; exact hd.get 1 _ rfl rfl); have rc : ∀ v, ρ (.const v) = v := (by subst hρ; exact fun _ => rfl); clear hρ hd
            (go_simp; (try (first | exact wrap_in _ (by omega) (by omega) | exact HZ.out | exact HN.out | rw [if_pos HZ.out.1, if_pos HZ.out.2])))
          refine FSteps.cons (FStep.value (.bool true) (fun _ _ _ => wanted_none rfl) (fun _ _ => rfl) (fun _ => rfl) (fun u w hW hC (hd : After _ _ u w) ρ hρ => ?_)) ?_
          · have r82 : ρ (.tmp 82) = .bool true := (by rw [hρ]; exact hd.get 0 _ rfl rfl); clear hρ hd
            (go_simp; (try (first | exact wrap_in _ (by omega) (by omega) | exact HZ.out | exact HN.out | rw [if_pos HZ.out.1, if_pos HZ.out.2])))
          refine FSteps.cons (FStep.value (.agg #[.int .i64 x4, .int .i64 y4, .int .i64 x3, .int .i64 y3]) (fun u w hd => wanted_on 62 83 true rfl rfl (congrArg some (hd.get 0 _ rfl rfl))) (fun _ _ => rfl) (fun _ => rfl) (fun u w hW hC (hd : After _ _ u w) ρ hρ => ?_)) ?_
          · have r6 : ρ (.tmp 6) = .pointer (some ⟨wz.heap.size, 0, none⟩) := (by subst hρ; rfl); clear hρ hd
            (go_simp; (try (first | exact wrap_in _ (by omega) (by omega) | exact HZ.out | exact HN.out | rw [if_pos HZ.out.1, if_pos HZ.out.2])))
          refine FSteps.cons (FStep.call (.int .i64 (n)) _ #[.agg #[.int .i64 x4, .int .i64 y4, .int .i64 x3, .int .i64 y3]] (fun u w hd => wanted_on 62 83 true rfl rfl (congrArg some (hd.get 1 _ rfl rfl))) (fun _ _ => rfl) (fun _ => rfl) (fun u w hW hC (hd : After _ _ u w) ρ hρ => ?_) (fun w => LatticeSteps_at _ _ _ _ _ w F6.out)) ?_
          · have r84 : ρ (.tmp 84) = .agg #[.int .i64 x4, .int .i64 y4, .int .i64 x3, .int .i64 y3] := (by rw [hρ]; exact hd.get 0 _ rfl rfl); have rf : ∀ f, ρ (.func f) = .func (.func f) #[] #[] := (by subst hρ; exact fun _ => rfl); clear hρ hd
            (go_simp; (try (first | exact wrap_in _ (by omega) (by omega) | exact HZ.out | exact HN.out | rw [if_pos HZ.out.1, if_pos HZ.out.2])))
          refine FSteps.cons (FStep.value (.int .i64 (n)) (fun u w hd => wanted_on 62 83 true rfl rfl (congrArg some (hd.get 0 _ rfl rfl))) (fun _ _ => rfl) (fun _ => rfl) (fun u w hW hC (hd : After _ _ u w) ρ hρ => ?_)) ?_
          · have r5 : ρ (.tmp 5) = .int .i64 (n) := (by subst hρ; rfl); clear hρ hd
            (go_simp; (try (first | exact wrap_in _ (by omega) (by omega) | exact HZ.out | exact HN.out | rw [if_pos HZ.out.1, if_pos HZ.out.2])))
          refine FSteps.cons (FStep.value (.bool true) (fun u w hd => wanted_on 62 83 true rfl rfl (congrArg some (hd.get 2 _ rfl rfl))) (fun _ _ => rfl) (fun _ => rfl) (fun u w hW hC (hd : After _ _ u w) ρ hρ => ?_)) ?_
          · have r85 : ρ (.tmp 85) = .int .i64 (n) := (by rw [hρ]; exact hd.get 0 _ rfl rfl); have r86 : ρ (.tmp 86) = .int .i64 (n) := (by rw [hρ]; exact hd.get 1 _ rfl rfl); clear hρ hd
            (go_simp; (try (first | exact wrap_in _ (by omega) (by omega) | exact HZ.out | exact HN.out | rw [if_pos HZ.out.1, if_pos HZ.out.2])))
          refine FSteps.cons (FStep.value (.bool true) (fun _ _ _ => wanted_none rfl) (fun _ _ => rfl) (fun _ => rfl) (fun u w hW hC (hd : After _ _ u w) ρ hρ => ?_)) ?_
          · have r83 : ρ (.tmp 83) = .bool true := (by rw [hρ]; exact hd.get 0 _ rfl rfl); have r87 : ρ (.tmp 87) = .bool true := (by rw [hρ]; exact hd.get 1 _ rfl rfl); have rc : ∀ v, ρ (.const v) = v := (by subst hρ; exact fun _ => rfl); clear hρ hd
            (go_simp; (try (first | exact wrap_in _ (by omega) (by omega) | exact HZ.out | exact HN.out | rw [if_pos HZ.out.1, if_pos HZ.out.2])))
          refine FSteps.cons (FStep.value (.bool true) (fun _ _ _ => wanted_none rfl) (fun _ _ => rfl) (fun _ => rfl) (fun u w hW hC (hd : After _ _ u w) ρ hρ => ?_)) ?_
          · have r88 : ρ (.tmp 88) = .bool true := (by rw [hρ]; exact hd.get 0 _ rfl rfl); clear hρ hd
            (go_simp; (try (first | exact wrap_in _ (by omega) (by omega) | exact HZ.out | exact HN.out | rw [if_pos HZ.out.1, if_pos HZ.out.2])))
          refine FSteps.cons (FStep.value (.agg #[.int .i64 x1, .int .i64 y1, .int .i64 x2, .int .i64 y2]) (fun u w hd => wanted_on 68 89 true rfl rfl (congrArg some (hd.get 0 _ rfl rfl))) (fun _ _ => rfl) (fun _ => rfl) (fun u w hW hC (hd : After _ _ u w) ρ hρ => ?_)) ?_
          · have r3 : ρ (.tmp 3) = .pointer (some ⟨w1.heap.size, 0, none⟩) := (by subst hρ; rfl); clear hρ hd
            (go_simp; (try (first | exact wrap_in _ (by omega) (by omega) | exact HZ.out | exact HN.out | rw [if_pos HZ.out.1, if_pos HZ.out.2])))
          refine FSteps.cons (FStep.value (.agg #[.int .i64 x4, .int .i64 y4, .int .i64 x3, .int .i64 y3]) (fun u w hd => wanted_on 68 89 true rfl rfl (congrArg some (hd.get 0 _ rfl rfl))) (fun _ _ => rfl) (fun _ => rfl) (fun u w hW hC (hd : After _ _ u w) ρ hρ => ?_)) ?_
          · have r6 : ρ (.tmp 6) = .pointer (some ⟨wz.heap.size, 0, none⟩) := (by subst hρ; rfl); clear hρ hd
            (go_simp; (try (first | exact wrap_in _ (by omega) (by omega) | exact HZ.out | exact HN.out | rw [if_pos HZ.out.1, if_pos HZ.out.2])))
          refine FSteps.cons (FStep.call (.bool true) _ #[.agg #[.int .i64 x1, .int .i64 y1, .int .i64 x2, .int .i64 y2], .agg #[.int .i64 x4, .int .i64 y4, .int .i64 x3, .int .i64 y3]] (fun u w hd => wanted_on 68 89 true rfl rfl (congrArg some (hd.get 2 _ rfl rfl))) (fun _ _ => rfl) (fun _ => rfl) (fun u w hW hC (hd : After _ _ u w) ρ hρ => ?_) (fun w => DoCross_at _ _ _ _ _ _ _ _ _ w F7.out)) ?_
          · have r90 : ρ (.tmp 90) = .agg #[.int .i64 x1, .int .i64 y1, .int .i64 x2, .int .i64 y2] := (by rw [hρ]; exact hd.get 0 _ rfl rfl); have r91 : ρ (.tmp 91) = .agg #[.int .i64 x4, .int .i64 y4, .int .i64 x3, .int .i64 y3] := (by rw [hρ]; exact hd.get 1 _ rfl rfl); have rf : ∀ f, ρ (.func f) = .func (.func f) #[] #[] := (by subst hρ; exact fun _ => rfl); clear hρ hd
            (go_simp; (try (first | exact wrap_in _ (by omega) (by omega) | exact HZ.out | exact HN.out | rw [if_pos HZ.out.1, if_pos HZ.out.2])))
          refine FSteps.cons (FStep.value (.agg #[.int .i64 x1, .int .i64 y1, .int .i64 x2, .int .i64 y2]) (fun u w hd => wanted_on 68 89 true rfl rfl (congrArg some (hd.get 0 _ rfl rfl))) (fun _ _ => rfl) (fun _ => rfl) (fun u w hW hC (hd : After _ _ u w) ρ hρ => ?_)) ?_
          · have r3 : ρ (.tmp 3) = .pointer (some ⟨w1.heap.size, 0, none⟩) := (by subst hρ; rfl); clear hρ hd
            (go_simp; (try (first | exact wrap_in _ (by omega) (by omega) | exact HZ.out | exact HN.out | rw [if_pos HZ.out.1, if_pos HZ.out.2])))
          refine FSteps.cons (FStep.value (.agg #[.int .i64 x3, .int .i64 y3, .int .i64 x4, .int .i64 y4]) (fun u w hd => wanted_on 68 89 true rfl rfl (congrArg some (hd.get 0 _ rfl rfl))) (fun _ _ => rfl) (fun _ => rfl) (fun u w hW hC (hd : After _ _ u w) ρ hρ => ?_)) ?_
          · have r4 : ρ (.tmp 4) = .pointer (some ⟨w1.heap.size + 1, 0, none⟩) := (by subst hρ; rfl); clear hρ hd
            (go_simp; (try (first | exact wrap_in _ (by omega) (by omega) | exact HZ.out | exact HN.out | rw [if_pos HZ.out.1, if_pos HZ.out.2])))
          refine FSteps.cons (FStep.call (.bool true) _ #[.agg #[.int .i64 x1, .int .i64 y1, .int .i64 x2, .int .i64 y2], .agg #[.int .i64 x3, .int .i64 y3, .int .i64 x4, .int .i64 y4]] (fun u w hd => wanted_on 68 89 true rfl rfl (congrArg some (hd.get 3 _ rfl rfl))) (fun _ _ => rfl) (fun _ => rfl) (fun u w hW hC (hd : After _ _ u w) ρ hρ => ?_) (fun w => DoCross_at _ _ _ _ _ _ _ _ _ w F1.out)) ?_
          · have r93 : ρ (.tmp 93) = .agg #[.int .i64 x1, .int .i64 y1, .int .i64 x2, .int .i64 y2] := (by rw [hρ]; exact hd.get 0 _ rfl rfl); have r94 : ρ (.tmp 94) = .agg #[.int .i64 x3, .int .i64 y3, .int .i64 x4, .int .i64 y4] := (by rw [hρ]; exact hd.get 1 _ rfl rfl); have rf : ∀ f, ρ (.func f) = .func (.func f) #[] #[] := (by subst hρ; exact fun _ => rfl); clear hρ hd
            (go_simp; (try (first | exact wrap_in _ (by omega) (by omega) | exact HZ.out | exact HN.out | rw [if_pos HZ.out.1, if_pos HZ.out.2])))
          refine FSteps.cons (FStep.value (.bool true) (fun u w hd => wanted_on 68 89 true rfl rfl (congrArg some (hd.get 2 _ rfl rfl))) (fun _ _ => rfl) (fun _ => rfl) (fun u w hW hC (hd : After _ _ u w) ρ hρ => ?_)) ?_
          · have r92 : ρ (.tmp 92) = .bool true := (by rw [hρ]; exact hd.get 0 _ rfl rfl); have r95 : ρ (.tmp 95) = .bool true := (by rw [hρ]; exact hd.get 1 _ rfl rfl); clear hρ hd
            (go_simp; (try (first | exact wrap_in _ (by omega) (by omega) | exact HZ.out | exact HN.out | rw [if_pos HZ.out.1, if_pos HZ.out.2])))
          refine FSteps.cons (FStep.value (.bool true) (fun _ _ _ => wanted_none rfl) (fun _ _ => rfl) (fun _ => rfl) (fun u w hW hC (hd : After _ _ u w) ρ hρ => ?_)) ?_
          · have r89 : ρ (.tmp 89) = .bool true := (by rw [hρ]; exact hd.get 0 _ rfl rfl); have r96 : ρ (.tmp 96) = .bool true := (by rw [hρ]; exact hd.get 1 _ rfl rfl); have rc : ∀ v, ρ (.const v) = v := (by subst hρ; exact fun _ => rfl); clear hρ hd
            (go_simp; (try (first | exact wrap_in _ (by omega) (by omega) | exact HZ.out | exact HN.out | rw [if_pos HZ.out.1, if_pos HZ.out.2])))
          refine FSteps.cons (FStep.value (.bool true) (fun _ _ _ => wanted_none rfl) (fun _ _ => rfl) (fun _ => rfl) (fun u w hW hC (hd : After _ _ u w) ρ hρ => ?_)) ?_
          · have r97 : ρ (.tmp 97) = .bool true := (by rw [hρ]; exact hd.get 0 _ rfl rfl); clear hρ hd
            (go_simp; (try (first | exact wrap_in _ (by omega) (by omega) | exact HZ.out | exact HN.out | rw [if_pos HZ.out.1, if_pos HZ.out.2])))
          refine FSteps.cons (FStep.value (.agg #[.int .i64 x3, .int .i64 y3, .int .i64 x4, .int .i64 y4]) (fun u w hd => wanted_on 77 98 true rfl rfl (congrArg some (hd.get 0 _ rfl rfl))) (fun _ _ => rfl) (fun _ => rfl) (fun u w hW hC (hd : After _ _ u w) ρ hρ => ?_)) ?_
          · have r4 : ρ (.tmp 4) = .pointer (some ⟨w1.heap.size + 1, 0, none⟩) := (by subst hρ; rfl); clear hρ hd
            (go_simp; (try (first | exact wrap_in _ (by omega) (by omega) | exact HZ.out | exact HN.out | rw [if_pos HZ.out.1, if_pos HZ.out.2])))
          refine FSteps.cons (FStep.value (.pointer (some ⟨w1.heap.size + 1, 0, none⟩)) (fun u w hd => wanted_on 77 98 true rfl rfl (congrArg some (hd.get 0 _ rfl rfl))) (fun _ _ => rfl) (fun _ => rfl) (fun u w hW hC (hd : After _ _ u w) ρ hρ => ?_)) ?_
          · have r4 : ρ (.tmp 4) = .pointer (some ⟨w1.heap.size + 1, 0, none⟩) := (by subst hρ; rfl); clear hρ hd
            (go_simp; (try (first | exact wrap_in _ (by omega) (by omega) | exact HZ.out | exact HN.out | rw [if_pos HZ.out.1, if_pos HZ.out.2])))
          refine FSteps.cons (FStep.value (.agg #[.int .i64 x3, .int .i64 y3]) (fun u w hd => wanted_on 77 98 true rfl rfl (congrArg some (hd.get 1 _ rfl rfl))) (fun _ _ => rfl) (fun _ => rfl) (fun u w hW hC (hd : After _ _ u w) ρ hρ => ?_)) ?_
          · have r100 : ρ (.tmp 100) = .pointer (some ⟨w1.heap.size + 1, 0, none⟩) := (by rw [hρ]; exact hd.get 0 _ rfl rfl); clear hρ hd
            (go_simp; (try (first | exact wrap_in _ (by omega) (by omega) | exact HZ.out | exact HN.out | rw [if_pos HZ.out.1, if_pos HZ.out.2])))
          refine FSteps.cons (FStep.call (.bool true) _ #[.agg #[.int .i64 x3, .int .i64 y3, .int .i64 x4, .int .i64 y4], .agg #[.int .i64 x3, .int .i64 y3]] (fun u w hd => wanted_on 77 98 true rfl rfl (congrArg some (hd.get 2 _ rfl rfl))) (fun _ _ => rfl) (fun _ => rfl) (fun u w hW hC (hd : After _ _ u w) ρ hρ => ?_) (fun w => IsOnWall_at _ _ _ _ _ _ _ w F8.out)) ?_
          · have r99 : ρ (.tmp 99) = .agg #[.int .i64 x3, .int .i64 y3, .int .i64 x4, .int .i64 y4] := (by rw [hρ]; exact hd.get 0 _ rfl rfl); have r101 : ρ (.tmp 101) = .agg #[.int .i64 x3, .int .i64 y3] := (by rw [hρ]; exact hd.get 1 _ rfl rfl); have rf : ∀ f, ρ (.func f) = .func (.func f) #[] #[] := (by subst hρ; exact fun _ => rfl); clear hρ hd
            (go_simp; (try (first | exact wrap_in _ (by omega) (by omega) | exact HZ.out | exact HN.out | rw [if_pos HZ.out.1, if_pos HZ.out.2])))
          refine FSteps.cons (FStep.value (.bool true) (fun _ _ _ => wanted_none rfl) (fun _ _ => rfl) (fun _ => rfl) (fun u w hW hC (hd : After _ _ u w) ρ hρ => ?_)) ?_
          · have r98 : ρ (.tmp 98) = .bool true := (by rw [hρ]; exact hd.get 0 _ rfl rfl); have r102 : ρ (.tmp 102) = .bool true := (by rw [hρ]; exact hd.get 1 _ rfl rfl); have rc : ∀ v, ρ (.const v) = v := (by subst hρ; exact fun _ => rfl); clear hρ hd
            (go_simp; (try (first | exact wrap_in _ (by omega) (by omega) | exact HZ.out | exact HN.out | rw [if_pos HZ.out.1, if_pos HZ.out.2])))
          refine FSteps.cons (FStep.value (.bool true) (fun _ _ _ => wanted_none rfl) (fun _ _ => rfl) (fun _ => rfl) (fun u w hW hC (hd : After _ _ u w) ρ hρ => ?_)) ?_
          · have r103 : ρ (.tmp 103) = .bool true := (by rw [hρ]; exact hd.get 0 _ rfl rfl); clear hρ hd
            (go_simp; (try (first | exact wrap_in _ (by omega) (by omega) | exact HZ.out | exact HN.out | rw [if_pos HZ.out.1, if_pos HZ.out.2])))
          exact FSteps.nil
        case hV3 => (simp only [List.forall_mem_cons]; simp [stable_is])
        case fin3 =>
          intro u w2 hW2 hC2 hd
          have e83 : u 83 = .bool true := AllV.get _ 0 83 u w2 _ hd rfl
          clear hd
          refine then_normal ?_
          go_step
          refine wp_ret ?_
          refine bodyPost_ret (results_tmp rfl _ _ _) rfl ?_
          refine ⟨congrArg Ending.returned e83, Below.trans hx1 (Below.mono (show Ext w1 _ by (repeat (first | exact Ext.refl _ | assumption | apply Ext.alloc | apply Ext.drew | apply Ext.drewN | (refine Ext.trans ?_ (by assumption))))).below hx1.size)⟩
    · obtain ⟨rfl, rfl⟩ := heq hz
      have HZ := hide (show x2 = x3 ∧ y2 = y3 by simpa only [Bool.and_eq_true, beq_iff_eq] using hz)
      clear heq hz hcm
      go_wp2_with fail
      refine (LatticeSteps_at _ _ _ _ _ _ F9.out).mono ?_
      rintro e wz ⟨rfl, hbt⟩
      have hcc := HB.out wz (by (repeat (first | exact Ext.refl _ | assumption | apply Ext.alloc | apply Ext.drew | apply Ext.drewN | (refine Ext.trans ?_ (by assumption)))))
      have HX : Hid (∀ w', Ext (wz.alloc (.cells #[.int .i64 x4, .int .i64 y4, .int .i64 x3, .int .i64 y3] 32)) w' → w'.cell? ⟨wz.heap.size, 0, none⟩ = some (.int .i64 x4) ∧ w'.cell? ⟨wz.heap.size, 1, none⟩ = some (.int .i64 y4) ∧ w'.cell? ⟨wz.heap.size, 2, none⟩ = some (.int .i64 x3) ∧ w'.cell? ⟨wz.heap.size, 3, none⟩ = some (.int .i64 y3) ∧ wz.heap.size < w'.heap.size) := fun w' hx => by
        and_intros <;> (first | (have hz := hx.size; simp at hz; omega) | ((first | rw [hx.cells _ _ (by first | (simp; done) | (simp; omega))] | rw [hx.frozens _ _ (by first | (simp; done) | (simp; omega))]); (first | (simp [go_sem]; done) | (simp [go_sem, World.cell?_alloc_past]; done) | (simp [go_sem, World.frozen?]; done))))
      go_wp2
      simp only [List.append_eq, List.cons_append, List.nil_append]
      refine wp_flow (by kernel_rfl) (by kernel_rfl) (fun u => ⟨#[_, _, u 83, _, _, _, _, _, _, _, _, _, _, _, _, _, _, _, _, _, _, u 0, u 1, u 2, u 3, u 4, u 5, u 6, u 7, u 8, u 9, u 10, u 11, u 12, u 13, u 14, u 15, u 16, u 17, u 18, u 19, u 20, u 21, u 22, u 23, u 24, u 25, u 26, u 27, u 28, u 29, u 30, u 31, u 32, u 33, u 34, u 35, u 36, u 37, u 38, u 39, u 40, u 41, u 42, u 43, u 44, u 45, u 46, u 47, u 48, u 49, u 50, u 51, u 52, u 53, u 54, u 55, u 56, u 57, u 58, u 59, u 60, u 61, u 62, u 63, u 64, u 65, u 66, u 67, u 68, u 69, u 70, u 71, u 72, u 73, u 74, u 75, u 76, u 77, u 78, u 79, u 80, u 81, u 82], _⟩) (fun i => List.getD [_, _, _, _, _, _, _, _, _, _, _, _, _, _, _, _, _, _, _, _, _, _, _, _, _, _, _, _, _, _, _, _, _, _, _, _, _, _, _, _, _, _, _, _, _, _, _, _, _, _, _, _, _, _, _, _, _, _, _, _, _, _, _, _, _, _, _, _, _, _, _, _, _, _, _, _, _, _, _, _, _, _, _, _] i undef) [is (.agg #[.int .i64 x1, .int .i64 y1, .int .i64 x2, .int .i64 y2]), is (.agg #[.int .i64 x3, .int .i64 y3, .int .i64 x4, .int .i64 y4]), is (.bool false), is (.agg #[.int .i64 x3, .int .i64 y3, .int .i64 x4, .int .i64 y4]), is (.agg #[.int .i64 x1, .int .i64 y1, .int .i64 x2, .int .i64 y2]), is (.bool false), is (.bool true), is (.bool true), is (.agg #[.int .i64 x1, .int .i64 y1, .int .i64 x2, .int .i64 y2]), is (.agg #[.int .i64 x3, .int .i64 y3, .int .i64 x4, .int .i64 y4]), is (.bool true), is (.agg #[.int .i64 x3, .int .i64 y3, .int .i64 x4, .int .i64 y4]), is (.agg #[.int .i64 x1, .int .i64 y1, .int .i64 x2, .int .i64 y2]), is (.bool true), is (.bool true), is (.bool true), is (.bool true), is (.agg #[.int .i64 x1, .int .i64 y1, .int .i64 x2, .int .i64 y2]), is (.agg #[.int .i64 x3, .int .i64 y3, .int .i64 x4, .int .i64 y4]), is (.bool false), is (.bool true), is (.bool true), is (undef), is (undef), is (undef), is (.bool true), is (.bool true), is (.bool true), is (.pointer (some ⟨w1.heap.size, 2, none⟩)), is (.agg #[.int .i64 x2, .int .i64 y2]), is (.pointer (some ⟨w1.heap.size + 1, 0, none⟩)), is (.agg #[.int .i64 x3, .int .i64 y3]), is (.bool false), is (.bool false), is (.agg #[.int .i64 x1, .int .i64 y1, .int .i64 x2, .int .i64 y2]), is (.agg #[.int .i64 x3, .int .i64 y3, .int .i64 x4, .int .i64 y4]), is (.bool true), is (.bool true), is (.agg #[.int .i64 x1, .int .i64 y1, .int .i64 x2, .int .i64 y2]), is (.agg #[.int .i64 x3, .int .i64 y3, .int .i64 x4, .int .i64 y4]), is (.bool false), is (.bool true), is (.bool true), is (.bool true), is (.bool true), is (.bool true), is (.int .i64 (n)), is (.bool true), is (.bool true), is (.bool true), is (.int .i64 (n)), is (.bool true), is (.bool true), is (.bool true), is (.agg #[.int .i64 x3, .int .i64 y3, .int .i64 x4, .int .i64 y4]), is (.int .i64 (q)), is (.int .i64 (n)), is (.int .i64 (n)), is (.int .i64 (nn)), is (.int .i64 (0)), is (.bool true), is (.bool true), is (.bool true), is (.agg #[.int .i64 x4, .int .i64 y4, .int .i64 x3, .int .i64 y3]), is (.int .i64 (n)), is (.int .i64 (n)), is (.bool true), is (.bool true), is (.bool true), is (.agg #[.int .i64 x1, .int .i64 y1, .int .i64 x2, .int .i64 y2]), is (.agg #[.int .i64 x4, .int .i64 y4, .int .i64 x3, .int .i64 y3]), is (.bool false), is (.agg #[.int .i64 x1, .int .i64 y1, .int .i64 x2, .int .i64 y2]), is (.agg #[.int .i64 x3, .int .i64 y3, .int .i64 x4, .int .i64 y4]), is (.bool false), is (.bool true), is (.bool true), is (.bool true), is (.agg #[.int .i64 x3, .int .i64 y3, .int .i64 x4, .int .i64 y4]), is (.pointer (some ⟨w1.heap.size + 1, 0, none⟩)), is (.agg #[.int .i64 x3, .int .i64 y3]), is (.bool true), is (.bool true), is (.bool true)] (fun w' => w'.cell? ⟨w1.heap.size, 0, none⟩ = some (.int .i64 x1) ∧ w'.cell? ⟨w1.heap.size, 1, none⟩ = some (.int .i64 y1) ∧ w'.cell? ⟨w1.heap.size, 2, none⟩ = some (.int .i64 x2) ∧ w'.cell? ⟨w1.heap.size, 3, none⟩ = some (.int .i64 y2) ∧ w1.heap.size < w'.heap.size ∧ w'.cell? ⟨w1.heap.size + 1, 0, none⟩ = some (.int .i64 x3) ∧ w'.cell? ⟨w1.heap.size + 1, 1, none⟩ = some (.int .i64 y3) ∧ w'.cell? ⟨w1.heap.size + 1, 2, none⟩ = some (.int .i64 x4) ∧ w'.cell? ⟨w1.heap.size + 1, 3, none⟩ = some (.int .i64 y4) ∧ w1.heap.size + 1 < w'.heap.size ∧ w'.cell? ⟨wz.heap.size, 0, none⟩ = some (.int .i64 x4) ∧ w'.cell? ⟨wz.heap.size, 1, none⟩ = some (.int .i64 y4) ∧ w'.cell? ⟨wz.heap.size, 2, none⟩ = some (.int .i64 x3) ∧ w'.cell? ⟨wz.heap.size, 3, none⟩ = some (.int .i64 y3) ∧ wz.heap.size < w'.heap.size) _ rfl ?hC4 ?hs4 ?hV4 ?fin4
      case hC4 => exact fun w' hx => (by have hq : Ext _ w' := hx; have hf0 := HB.out w' (by (repeat (first | exact Ext.refl _ | assumption | apply Ext.alloc | apply Ext.drew | apply Ext.drewN | (refine Ext.trans ?_ (by assumption))))); have hf1 := HX.out w' (by (repeat (first | exact Ext.refl _ | assumption | apply Ext.alloc | apply Ext.drew | apply Ext.drewN | (refine Ext.trans ?_ (by assumption))))); and_intros <;> first | exact hf0 | exact hf0.1 | exact hf0.2.1 | exact hf0.2.2.1 | exact hf0.2.2.2.1 | exact hf0.2.2.2.2.1 | exact hf0.2.2.2.2.2.1 | exact hf0.2.2.2.2.2.2.1 | exact hf0.2.2.2.2.2.2.2.1 | exact hf0.2.2.2.2.2.2.2.2.1 | exact hf0.2.2.2.2.2.2.2.2.2.1 | exact hf0.2.2.2.2.2.2.2.2.2.2.1 | exact hf0.2.2.2.2.2.2.2.2.2.2.2.1 | exact hf0.2.2.2.2.2.2.2.2.2.2.2.2.1 | exact hf0.2.2.2.2.2.2.2.2.2.2.2.2.2.1 | exact hf0.2 | exact hf0.2.2 | exact hf0.2.2.2 | exact hf0.2.2.2.2 | exact hf0.2.2.2.2.2 | exact hf0.2.2.2.2.2.2 | exact hf0.2.2.2.2.2.2.2 | exact hf0.2.2.2.2.2.2.2.2 | exact hf0.2.2.2.2.2.2.2.2.2 | exact hf0.2.2.2.2.2.2.2.2.2.2 | exact hf0.2.2.2.2.2.2.2.2.2.2.2 | exact hf0.2.2.2.2.2.2.2.2.2.2.2.2 | exact hf0.2.2.2.2.2.2.2.2.2.2.2.2.2 | exact hf1 | exact hf1.1 | exact hf1.2.1 | exact hf1.2.2.1 | exact hf1.2.2.2.1 | exact hf1.2.2.2.2.1 | exact hf1.2.2.2.2.2.1 | exact hf1.2.2.2.2.2.2.1 | exact hf1.2.2.2.2.2.2.2.1 | exact hf1.2.2.2.2.2.2.2.2.1 | exact hf1.2.2.2.2.2.2.2.2.2.1 | exact hf1.2.2.2.2.2.2.2.2.2.2.1 | exact hf1.2.2.2.2.2.2.2.2.2.2.2.1 | exact hf1.2.2.2.2.2.2.2.2.2.2.2.2.1 | exact hf1.2.2.2.2.2.2.2.2.2.2.2.2.2.1 | exact hf1.2 | exact hf1.2.2 | exact hf1.2.2.2 | exact hf1.2.2.2.2 | exact hf1.2.2.2.2.2 | exact hf1.2.2.2.2.2.2 | exact hf1.2.2.2.2.2.2.2 | exact hf1.2.2.2.2.2.2.2.2 | exact hf1.2.2.2.2.2.2.2.2.2 | exact hf1.2.2.2.2.2.2.2.2.2.2 | exact hf1.2.2.2.2.2.2.2.2.2.2.2 | exact hf1.2.2.2.2.2.2.2.2.2.2.2.2 | exact hf1.2.2.2.2.2.2.2.2.2.2.2.2.2)
      case hs4 =>
        refine FSteps.cons (FStep.value (.agg #[.int .i64 x1, .int .i64 y1, .int .i64 x2, .int .i64 y2]) (fun _ _ _ => wanted_none rfl) (fun _ _ => rfl) (fun _ => rfl) (fun u w hW hC (hd : After _ _ u w) ρ hρ => ?_)) ?_
        · have r3 : ρ (.tmp 3) = .pointer (some ⟨w1.heap.size, 0, none⟩) := (by subst hρ; rfl); clear hρ hd
          (go_simp; (try (first | exact wrap_in _ (by omega) (by omega) | exact HZ.out | exact HN.out | rw [if_pos HZ.out.1, if_pos HZ.out.2])))
        refine FSteps.cons (FStep.value (.agg #[.int .i64 x3, .int .i64 y3, .int .i64 x4, .int .i64 y4]) (fun _ _ _ => wanted_none rfl) (fun _ _ => rfl) (fun _ => rfl) (fun u w hW hC (hd : After _ _ u w) ρ hρ => ?_)) ?_
        · have r4 : ρ (.tmp 4) = .pointer (some ⟨w1.heap.size + 1, 0, none⟩) := (by subst hρ; rfl); clear hρ hd
          (go_simp; (try (first | exact wrap_in _ (by omega) (by omega) | exact HZ.out | exact HN.out | rw [if_pos HZ.out.1, if_pos HZ.out.2])))
        refine FSteps.cons (FStep.call (.bool false) _ #[.agg #[.int .i64 x1, .int .i64 y1, .int .i64 x2, .int .i64 y2], .agg #[.int .i64 x3, .int .i64 y3, .int .i64 x4, .int .i64 y4]] (fun _ _ _ => wanted_none rfl) (fun _ _ => rfl) (fun _ => rfl) (fun u w hW hC (hd : After _ _ u w) ρ hρ => ?_) (fun w => DoCross_at _ _ _ _ _ _ _ _ _ w F1.out)) ?_
        · have r21 : ρ (.tmp 21) = .agg #[.int .i64 x1, .int .i64 y1, .int .i64 x2, .int .i64 y2] := (by rw [hρ]; exact hd.get 0 _ rfl rfl); have r22 : ρ (.tmp 22) = .agg #[.int .i64 x3, .int .i64 y3, .int .i64 x4, .int .i64 y4] := (by rw [hρ]; exact hd.get 1 _ rfl rfl); have rf : ∀ f, ρ (.func f) = .func (.func f) #[] #[] := (by subst hρ; exact fun _ => rfl); clear hρ hd
          (go_simp; (try (first | exact wrap_in _ (by omega) (by omega) | exact HZ.out | exact HN.out | rw [if_pos HZ.out.1, if_pos HZ.out.2])))
        refine FSteps.cons (FStep.value (.agg #[.int .i64 x3, .int .i64 y3, .int .i64 x4, .int .i64 y4]) (fun _ _ _ => wanted_none rfl) (fun _ _ => rfl) (fun _ => rfl) (fun u w hW hC (hd : After _ _ u w) ρ hρ => ?_)) ?_
        · have r4 : ρ (.tmp 4) = .pointer (some ⟨w1.heap.size + 1, 0, none⟩) := (by subst hρ; rfl); clear hρ hd
          (go_simp; (try (first | exact wrap_in _ (by omega) (by omega) | exact HZ.out | exact HN.out | rw [if_pos HZ.out.1, if_pos HZ.out.2])))
        refine FSteps.cons (FStep.value (.agg #[.int .i64 x1, .int .i64 y1, .int .i64 x2, .int .i64 y2]) (fun _ _ _ => wanted_none rfl) (fun _ _ => rfl) (fun _ => rfl) (fun u w hW hC (hd : After _ _ u w) ρ hρ => ?_)) ?_
        · have r3 : ρ (.tmp 3) = .pointer (some ⟨w1.heap.size, 0, none⟩) := (by subst hρ; rfl); clear hρ hd
          (go_simp; (try (first | exact wrap_in _ (by omega) (by omega) | exact HZ.out | exact HN.out | rw [if_pos HZ.out.1, if_pos HZ.out.2])))
        refine FSteps.cons (FStep.call (.bool false) _ #[.agg #[.int .i64 x3, .int .i64 y3, .int .i64 x4, .int .i64 y4], .agg #[.int .i64 x1, .int .i64 y1, .int .i64 x2, .int .i64 y2]] (fun _ _ _ => wanted_none rfl) (fun _ _ => rfl) (fun _ => rfl) (fun u w hW hC (hd : After _ _ u w) ρ hρ => ?_) (fun w => DoCross_at _ _ _ _ _ _ _ _ _ w F2.out)) ?_
        · have r24 : ρ (.tmp 24) = .agg #[.int .i64 x3, .int .i64 y3, .int .i64 x4, .int .i64 y4] := (by rw [hρ]; exact hd.get 0 _ rfl rfl); have r25 : ρ (.tmp 25) = .agg #[.int .i64 x1, .int .i64 y1, .int .i64 x2, .int .i64 y2] := (by rw [hρ]; exact hd.get 1 _ rfl rfl); have rf : ∀ f, ρ (.func f) = .func (.func f) #[] #[] := (by subst hρ; exact fun _ => rfl); clear hρ hd
          (go_simp; (try (first | exact wrap_in _ (by omega) (by omega) | exact HZ.out | exact HN.out | rw [if_pos HZ.out.1, if_pos HZ.out.2])))
        refine FSteps.cons (FStep.value (.bool true) (fun _ _ _ => wanted_none rfl) (fun _ _ => rfl) (fun _ => rfl) (fun u w hW hC (hd : After _ _ u w) ρ hρ => ?_)) ?_
        · have r23 : ρ (.tmp 23) = .bool false := (by rw [hρ]; exact hd.get 0 _ rfl rfl); have r26 : ρ (.tmp 26) = .bool false := (by rw [hρ]; exact hd.get 1 _ rfl rfl); clear hρ hd
          (go_simp; (try (first | exact wrap_in _ (by omega) (by omega) | exact HZ.out | exact HN.out | rw [if_pos HZ.out.1, if_pos HZ.out.2])))
        refine FSteps.cons (FStep.value (.bool true) (fun _ _ _ => wanted_none rfl) (fun _ _ => rfl) (fun _ => rfl) (fun u w hW hC (hd : After _ _ u w) ρ hρ => ?_)) ?_
        · have r27 : ρ (.tmp 27) = .bool true := (by rw [hρ]; exact hd.get 0 _ rfl rfl); clear hρ hd
          (go_simp; (try (first | exact wrap_in _ (by omega) (by omega) | exact HZ.out | exact HN.out | rw [if_pos HZ.out.1, if_pos HZ.out.2])))
        refine FSteps.cons (FStep.value (.agg #[.int .i64 x1, .int .i64 y1, .int .i64 x2, .int .i64 y2]) (fun u w hd => wanted_on 7 28 true rfl rfl (congrArg some (hd.get 0 _ rfl rfl))) (fun _ _ => rfl) (fun _ => rfl) (fun u w hW hC (hd : After _ _ u w) ρ hρ => ?_)) ?_
        · have r3 : ρ (.tmp 3) = .pointer (some ⟨w1.heap.size, 0, none⟩) := (by subst hρ; rfl); clear hρ hd
          (go_simp; (try (first | exact wrap_in _ (by omega) (by omega) | exact HZ.out | exact HN.out | rw [if_pos HZ.out.1, if_pos HZ.out.2])))
        refine FSteps.cons (FStep.value (.agg #[.int .i64 x3, .int .i64 y3, .int .i64 x4, .int .i64 y4]) (fun u w hd => wanted_on 7 28 true rfl rfl (congrArg some (hd.get 0 _ rfl rfl))) (fun _ _ => rfl) (fun _ => rfl) (fun u w hW hC (hd : After _ _ u w) ρ hρ => ?_)) ?_
        · have r4 : ρ (.tmp 4) = .pointer (some ⟨w1.heap.size + 1, 0, none⟩) := (by subst hρ; rfl); clear hρ hd
          (go_simp; (try (first | exact wrap_in _ (by omega) (by omega) | exact HZ.out | exact HN.out | rw [if_pos HZ.out.1, if_pos HZ.out.2])))
        refine FSteps.cons (FStep.call (.bool true) _ #[.agg #[.int .i64 x1, .int .i64 y1, .int .i64 x2, .int .i64 y2], .agg #[.int .i64 x3, .int .i64 y3, .int .i64 x4, .int .i64 y4]] (fun u w hd => wanted_on 7 28 true rfl rfl (congrArg some (hd.get 2 _ rfl rfl))) (fun _ _ => rfl) (fun _ => rfl) (fun u w hW hC (hd : After _ _ u w) ρ hρ => ?_) (fun w => DoMeet_at _ _ _ _ _ _ _ _ _ w F3.out)) ?_
        · have r29 : ρ (.tmp 29) = .agg #[.int .i64 x1, .int .i64 y1, .int .i64 x2, .int .i64 y2] := (by rw [hρ]; exact hd.get 0 _ rfl rfl); have r30 : ρ (.tmp 30) = .agg #[.int .i64 x3, .int .i64 y3, .int .i64 x4, .int .i64 y4] := (by rw [hρ]; exact hd.get 1 _ rfl rfl); have rf : ∀ f, ρ (.func f) = .func (.func f) #[] #[] := (by subst hρ; exact fun _ => rfl); clear hρ hd
          (go_simp; (try (first | exact wrap_in _ (by omega) (by omega) | exact HZ.out | exact HN.out | rw [if_pos HZ.out.1, if_pos HZ.out.2])))
        refine FSteps.cons (FStep.value (.agg #[.int .i64 x3, .int .i64 y3, .int .i64 x4, .int .i64 y4]) (fun u w hd => wanted_on 7 28 true rfl rfl (congrArg some (hd.get 0 _ rfl rfl))) (fun _ _ => rfl) (fun _ => rfl) (fun u w hW hC (hd : After _ _ u w) ρ hρ => ?_)) ?_
        · have r4 : ρ (.tmp 4) = .pointer (some ⟨w1.heap.size + 1, 0, none⟩) := (by subst hρ; rfl); clear hρ hd
          (go_simp; (try (first | exact wrap_in _ (by omega) (by omega) | exact HZ.out | exact HN.out | rw [if_pos HZ.out.1, if_pos HZ.out.2])))
        refine FSteps.cons (FStep.value (.agg #[.int .i64 x1, .int .i64 y1, .int .i64 x2, .int .i64 y2]) (fun u w hd => wanted_on 7 28 true rfl rfl (congrArg some (hd.get 0 _ rfl rfl))) (fun _ _ => rfl) (fun _ => rfl) (fun u w hW hC (hd : After _ _ u w) ρ hρ => ?_)) ?_
        · have r3 : ρ (.tmp 3) = .pointer (some ⟨w1.heap.size, 0, none⟩) := (by subst hρ; rfl); clear hρ hd
          (go_simp; (try (first | exact wrap_in _ (by omega) (by omega) | exact HZ.out | exact HN.out | rw [if_pos HZ.out.1, if_pos HZ.out.2])))
        refine FSteps.cons (FStep.call (.bool true) _ #[.agg #[.int .i64 x3, .int .i64 y3, .int .i64 x4, .int .i64 y4], .agg #[.int .i64 x1, .int .i64 y1, .int .i64 x2, .int .i64 y2]] (fun u w hd => wanted_on 7 28 true rfl rfl (congrArg some (hd.get 3 _ rfl rfl))) (fun _ _ => rfl) (fun _ => rfl) (fun u w hW hC (hd : After _ _ u w) ρ hρ => ?_) (fun w => DoMeet_at _ _ _ _ _ _ _ _ _ w F4.out)) ?_
        · have r32 : ρ (.tmp 32) = .agg #[.int .i64 x3, .int .i64 y3, .int .i64 x4, .int .i64 y4] := (by rw [hρ]; exact hd.get 0 _ rfl rfl); have r33 : ρ (.tmp 33) = .agg #[.int .i64 x1, .int .i64 y1, .int .i64 x2, .int .i64 y2] := (by rw [hρ]; exact hd.get 1 _ rfl rfl); have rf : ∀ f, ρ (.func f) = .func (.func f) #[] #[] := (by subst hρ; exact fun _ => rfl); clear hρ hd
          (go_simp; (try (first | exact wrap_in _ (by omega) (by omega) | exact HZ.out | exact HN.out | rw [if_pos HZ.out.1, if_pos HZ.out.2])))
        refine FSteps.cons (FStep.value (.bool true) (fun u w hd => wanted_on 7 28 true rfl rfl (congrArg some (hd.get 2 _ rfl rfl))) (fun _ _ => rfl) (fun _ => rfl) (fun u w hW hC (hd : After _ _ u w) ρ hρ => ?_)) ?_
        · have r31 : ρ (.tmp 31) = .bool true := (by rw [hρ]; exact hd.get 0 _ rfl rfl); have r34 : ρ (.tmp 34) = .bool true := (by rw [hρ]; exact hd.get 1 _ rfl rfl); clear hρ hd
          (go_simp; (try (first | exact wrap_in _ (by omega) (by omega) | exact HZ.out | exact HN.out | rw [if_pos HZ.out.1, if_pos HZ.out.2])))
        refine FSteps.cons (FStep.value (.bool true) (fun _ _ _ => wanted_none rfl) (fun _ _ => rfl) (fun _ => rfl) (fun u w hW hC (hd : After _ _ u w) ρ hρ => ?_)) ?_
        · have r28 : ρ (.tmp 28) = .bool true := (by rw [hρ]; exact hd.get 0 _ rfl rfl); have r35 : ρ (.tmp 35) = .bool true := (by rw [hρ]; exact hd.get 1 _ rfl rfl); have rc : ∀ v, ρ (.const v) = v := (by subst hρ; exact fun _ => rfl); clear hρ hd
          (go_simp; (try (first | exact wrap_in _ (by omega) (by omega) | exact HZ.out | exact HN.out | rw [if_pos HZ.out.1, if_pos HZ.out.2])))
        refine FSteps.cons (FStep.value (.bool true) (fun _ _ _ => wanted_none rfl) (fun _ _ => rfl) (fun _ => rfl) (fun u w hW hC (hd : After _ _ u w) ρ hρ => ?_)) ?_
        · have r36 : ρ (.tmp 36) = .bool true := (by rw [hρ]; exact hd.get 0 _ rfl rfl); clear hρ hd
          (go_simp; (try (first | exact wrap_in _ (by omega) (by omega) | exact HZ.out | exact HN.out | rw [if_pos HZ.out.1, if_pos HZ.out.2])))
        refine FSteps.cons (FStep.value (.agg #[.int .i64 x1, .int .i64 y1, .int .i64 x2, .int .i64 y2]) (fun u w hd => wanted_on 16 37 true rfl rfl (congrArg some (hd.get 0 _ rfl rfl))) (fun _ _ => rfl) (fun _ => rfl) (fun u w hW hC (hd : After _ _ u w) ρ hρ => ?_)) ?_
        · have r3 : ρ (.tmp 3) = .pointer (some ⟨w1.heap.size, 0, none⟩) := (by subst hρ; rfl); clear hρ hd
          (go_simp; (try (first | exact wrap_in _ (by omega) (by omega) | exact HZ.out | exact HN.out | rw [if_pos HZ.out.1, if_pos HZ.out.2])))
        refine FSteps.cons (FStep.value (.agg #[.int .i64 x3, .int .i64 y3, .int .i64 x4, .int .i64 y4]) (fun u w hd => wanted_on 16 37 true rfl rfl (congrArg some (hd.get 0 _ rfl rfl))) (fun _ _ => rfl) (fun _ => rfl) (fun u w hW hC (hd : After _ _ u w) ρ hρ => ?_)) ?_
        · have r4 : ρ (.tmp 4) = .pointer (some ⟨w1.heap.size + 1, 0, none⟩) := (by subst hρ; rfl); clear hρ hd
          (go_simp; (try (first | exact wrap_in _ (by omega) (by omega) | exact HZ.out | exact HN.out | rw [if_pos HZ.out.1, if_pos HZ.out.2])))
        refine FSteps.cons (FStep.call (.bool false) _ #[.agg #[.int .i64 x1, .int .i64 y1, .int .i64 x2, .int .i64 y2], .agg #[.int .i64 x3, .int .i64 y3, .int .i64 x4, .int .i64 y4]] (fun u w hd => wanted_on 16 37 true rfl rfl (congrArg some (hd.get 2 _ rfl rfl))) (fun _ _ => rfl) (fun _ => rfl) (fun u w hW hC (hd : After _ _ u w) ρ hρ => ?_) (fun w => DoCross_at _ _ _ _ _ _ _ _ _ w F1.out)) ?_
        · have r38 : ρ (.tmp 38) = .agg #[.int .i64 x1, .int .i64 y1, .int .i64 x2, .int .i64 y2] := (by rw [hρ]; exact hd.get 0 _ rfl rfl); have r39 : ρ (.tmp 39) = .agg #[.int .i64 x3, .int .i64 y3, .int .i64 x4, .int .i64 y4] := (by rw [hρ]; exact hd.get 1 _ rfl rfl); have rf : ∀ f, ρ (.func f) = .func (.func f) #[] #[] := (by subst hρ; exact fun _ => rfl); clear hρ hd
          (go_simp; (try (first | exact wrap_in _ (by omega) (by omega) | exact HZ.out | exact HN.out | rw [if_pos HZ.out.1, if_pos HZ.out.2])))
        refine FSteps.cons (FStep.value (.bool true) (fun u w hd => wanted_on 16 37 true rfl rfl (congrArg some (hd.get 1 _ rfl rfl))) (fun _ _ => rfl) (fun _ => rfl) (fun u w hW hC (hd : After _ _ u w) ρ hρ => ?_)) ?_
        · have r40 : ρ (.tmp 40) = .bool false := (by rw [hρ]; exact hd.get 0 _ rfl rfl); clear hρ hd
          (go_simp; (try (first | exact wrap_in _ (by omega) (by omega) | exact HZ.out | exact HN.out | rw [if_pos HZ.out.1, if_pos HZ.out.2])))
        refine FSteps.cons (FStep.value (.bool true) (fun u w hd => wanted_on 16 37 true rfl rfl (congrArg some (hd.get 2 _ rfl rfl))) (fun _ _ => rfl) (fun _ => rfl) (fun u w hW hC (hd : After _ _ u w) ρ hρ => ?_)) ?_
        · have r41 : ρ (.tmp 41) = .bool true := (by rw [hρ]; exact hd.get 0 _ rfl rfl); clear hρ hd
          (go_simp; (try (first | exact wrap_in _ (by omega) (by omega) | exact HZ.out | exact HN.out | rw [if_pos HZ.out.1, if_pos HZ.out.2])))
        refine FSteps.cons (FStep.off_ 21 42 false rfl rfl (fun u w hd => .inl (congrArg some (After.get (V := vOf _) hd 0 _ rfl rfl))) (fun _ => rfl) (fun _ => rfl)) ?_
        refine FSteps.cons (FStep.off_ 21 42 false rfl rfl (fun u w hd => .inl (congrArg some (After.get (V := vOf _) hd 0 _ rfl rfl))) (fun _ => rfl) (fun _ => rfl)) ?_
        refine FSteps.cons (FStep.off_ 21 42 false rfl rfl (fun u w hd => .inl (congrArg some (After.get (V := vOf _) hd 2 _ rfl rfl))) (fun _ => rfl) (fun _ => rfl)) ?_
        refine FSteps.cons (FStep.value (.bool true) (fun u w hd => wanted_on 16 37 true rfl rfl (congrArg some (hd.get 2 _ rfl rfl))) (fun _ _ => rfl) (fun _ => rfl) (fun u w hW hC (hd : After _ _ u w) ρ hρ => ?_)) ?_
        · have r42 : ρ (.tmp 42) = .bool true := (by rw [hρ]; exact hd.get 0 _ rfl rfl); have r45 : ρ (.tmp 45) = undef := (by rw [hρ]; exact hd.get 1 _ rfl rfl); have rc : ∀ v, ρ (.const v) = v := (by subst hρ; exact fun _ => rfl); clear hρ hd
          (go_simp; (try (first | exact wrap_in _ (by omega) (by omega) | exact HZ.out | exact HN.out | rw [if_pos HZ.out.1, if_pos HZ.out.2])))
        refine FSteps.cons (FStep.value (.bool true) (fun _ _ _ => wanted_none rfl) (fun _ _ => rfl) (fun _ => rfl) (fun u w hW hC (hd : After _ _ u w) ρ hρ => ?_)) ?_
        · have r37 : ρ (.tmp 37) = .bool true := (by rw [hρ]; exact hd.get 0 _ rfl rfl); have r46 : ρ (.tmp 46) = .bool true := (by rw [hρ]; exact hd.get 1 _ rfl rfl); have rc : ∀ v, ρ (.const v) = v := (by subst hρ; exact fun _ => rfl); clear hρ hd
          (go_simp; (try (first | exact wrap_in _ (by omega) (by omega) | exact HZ.out | exact HN.out | rw [if_pos HZ.out.1, if_pos HZ.out.2])))
        refine FSteps.cons (FStep.value (.bool true) (fun _ _ _ => wanted_none rfl) (fun _ _ => rfl) (fun _ => rfl) (fun u w hW hC (hd : After _ _ u w) ρ hρ => ?_)) ?_
        · have r47 : ρ (.tmp 47) = .bool true := (by rw [hρ]; exact hd.get 0 _ rfl rfl); clear hρ hd
          (go_simp; (try (first | exact wrap_in _ (by omega) (by omega) | exact HZ.out | exact HN.out | rw [if_pos HZ.out.1, if_pos HZ.out.2])))
        refine FSteps.cons (FStep.value (.pointer (some ⟨w1.heap.size, 2, none⟩)) (fun u w hd => wanted_on 27 48 true rfl rfl (congrArg some (hd.get 0 _ rfl rfl))) (fun _ _ => rfl) (fun _ => rfl) (fun u w hW hC (hd : After _ _ u w) ρ hρ => ?_)) ?_
        · have r3 : ρ (.tmp 3) = .pointer (some ⟨w1.heap.size, 0, none⟩) := (by subst hρ; rfl); clear hρ hd
          (go_simp; (try (first | exact wrap_in _ (by omega) (by omega) | exact HZ.out | exact HN.out | rw [if_pos HZ.out.1, if_pos HZ.out.2])))
        refine FSteps.cons (FStep.value (.agg #[.int .i64 x2, .int .i64 y2]) (fun u w hd => wanted_on 27 48 true rfl rfl (congrArg some (hd.get 1 _ rfl rfl))) (fun _ _ => rfl) (fun _ => rfl) (fun u w hW hC (hd : After _ _ u w) ρ hρ => ?_)) ?_
        · have r49 : ρ (.tmp 49) = .pointer (some ⟨w1.heap.size, 2, none⟩) := (by rw [hρ]; exact hd.get 0 _ rfl rfl); clear hρ hd
          (go_simp; (try (first | exact wrap_in _ (by omega) (by omega) | exact HZ.out | exact HN.out | rw [if_pos HZ.out.1, if_pos HZ.out.2])))
        refine FSteps.cons (FStep.value (.pointer (some ⟨w1.heap.size + 1, 0, none⟩)) (fun u w hd => wanted_on 27 48 true rfl rfl (congrArg some (hd.get 0 _ rfl rfl))) (fun _ _ => rfl) (fun _ => rfl) (fun u w hW hC (hd : After _ _ u w) ρ hρ => ?_)) ?_
        · have r4 : ρ (.tmp 4) = .pointer (some ⟨w1.heap.size + 1, 0, none⟩) := (by subst hρ; rfl); clear hρ hd
          (go_simp; (try (first | exact wrap_in _ (by omega) (by omega) | exact HZ.out | exact HN.out | rw [if_pos HZ.out.1, if_pos HZ.out.2])))
        refine FSteps.cons (FStep.value (.agg #[.int .i64 x3, .int .i64 y3]) (fun u w hd => wanted_on 27 48 true rfl rfl (congrArg some (hd.get 1 _ rfl rfl))) (fun _ _ => rfl) (fun _ => rfl) (fun u w hW hC (hd : After _ _ u w) ρ hρ => ?_)) ?_
        · have r51 : ρ (.tmp 51) = .pointer (some ⟨w1.heap.size + 1, 0, none⟩) := (by rw [hρ]; exact hd.get 0 _ rfl rfl); clear hρ hd
          (go_simp; (try (first | exact wrap_in _ (by omega) (by omega) | exact HZ.out | exact HN.out | rw [if_pos HZ.out.1, if_pos HZ.out.2])))
        refine FSteps.cons (FStep.value (.bool false) (fun u w hd => wanted_on 27 48 true rfl rfl (congrArg some (hd.get 2 _ rfl rfl))) (fun _ _ => rfl) (fun _ => rfl) (fun u w hW hC (hd : After _ _ u w) ρ hρ => ?_)) ?_
        · have r50 : ρ (.tmp 50) = .agg #[.int .i64 x2, .int .i64 y2] := (by rw [hρ]; exact hd.get 0 _ rfl rfl); have r52 : ρ (.tmp 52) = .agg #[.int .i64 x3, .int .i64 y3] := (by rw [hρ]; exact hd.get 1 _ rfl rfl); clear hρ hd
          (go_simp; (try (first | exact wrap_in _ (by omega) (by omega) | exact HZ.out | exact HN.out | rw [if_pos HZ.out.1, if_pos HZ.out.2])))
        refine FSteps.cons (FStep.value (.bool false) (fun u w hd => wanted_on 27 48 true rfl rfl (congrArg some (hd.get 1 _ rfl rfl))) (fun _ _ => rfl) (fun _ => rfl) (fun u w hW hC (hd : After _ _ u w) ρ hρ => ?_)) ?_
        · have r53 : ρ (.tmp 53) = .bool false := (by rw [hρ]; exact hd.get 0 _ rfl rfl); clear hρ hd
          (go_simp; (try (first | exact wrap_in _ (by omega) (by omega) | exact HZ.out | exact HN.out | rw [if_pos HZ.out.1, if_pos HZ.out.2])))
        refine FSteps.cons (FStep.value (.agg #[.int .i64 x1, .int .i64 y1, .int .i64 x2, .int .i64 y2]) (fun u w hd => wanted_on 33 54 false rfl rfl (congrArg some (hd.get 0 _ rfl rfl))) (fun _ _ => rfl) (fun _ => rfl) (fun u w hW hC (hd : After _ _ u w) ρ hρ => ?_)) ?_
        · have r3 : ρ (.tmp 3) = .pointer (some ⟨w1.heap.size, 0, none⟩) := (by subst hρ; rfl); clear hρ hd
          (go_simp; (try (first | exact wrap_in _ (by omega) (by omega) | exact HZ.out | exact HN.out | rw [if_pos HZ.out.1, if_pos HZ.out.2])))
        refine FSteps.cons (FStep.value (.agg #[.int .i64 x3, .int .i64 y3, .int .i64 x4, .int .i64 y4]) (fun u w hd => wanted_on 33 54 false rfl rfl (congrArg some (hd.get 0 _ rfl rfl))) (fun _ _ => rfl) (fun _ => rfl) (fun u w hW hC (hd : After _ _ u w) ρ hρ => ?_)) ?_
        · have r4 : ρ (.tmp 4) = .pointer (some ⟨w1.heap.size + 1, 0, none⟩) := (by subst hρ; rfl); clear hρ hd
          (go_simp; (try (first | exact wrap_in _ (by omega) (by omega) | exact HZ.out | exact HN.out | rw [if_pos HZ.out.1, if_pos HZ.out.2])))
        refine FSteps.cons (FStep.call (.bool true) _ #[.agg #[.int .i64 x1, .int .i64 y1, .int .i64 x2, .int .i64 y2], .agg #[.int .i64 x3, .int .i64 y3, .int .i64 x4, .int .i64 y4]] (fun u w hd => wanted_on 33 54 false rfl rfl (congrArg some (hd.get 2 _ rfl rfl))) (fun _ _ => rfl) (fun _ => rfl) (fun u w hW hC (hd : After _ _ u w) ρ hρ => ?_) (fun w => DoMeet_at _ _ _ _ _ _ _ _ _ w F3.out)) ?_
        · have r55 : ρ (.tmp 55) = .agg #[.int .i64 x1, .int .i64 y1, .int .i64 x2, .int .i64 y2] := (by rw [hρ]; exact hd.get 0 _ rfl rfl); have r56 : ρ (.tmp 56) = .agg #[.int .i64 x3, .int .i64 y3, .int .i64 x4, .int .i64 y4] := (by rw [hρ]; exact hd.get 1 _ rfl rfl); have rf : ∀ f, ρ (.func f) = .func (.func f) #[] #[] := (by subst hρ; exact fun _ => rfl); clear hρ hd
          (go_simp; (try (first | exact wrap_in _ (by omega) (by omega) | exact HZ.out | exact HN.out | rw [if_pos HZ.out.1, if_pos HZ.out.2])))
        refine FSteps.cons (FStep.value (.bool true) (fun u w hd => wanted_on 33 54 false rfl rfl (congrArg some (hd.get 2 _ rfl rfl))) (fun _ _ => rfl) (fun _ => rfl) (fun u w hW hC (hd : After _ _ u w) ρ hρ => ?_)) ?_
        · have r57 : ρ (.tmp 57) = .bool true := (by rw [hρ]; exact hd.get 0 _ rfl rfl); clear hρ hd
          (go_simp; (try (first | exact wrap_in _ (by omega) (by omega) | exact HZ.out | exact HN.out | rw [if_pos HZ.out.1, if_pos HZ.out.2])))
        refine FSteps.cons (FStep.value (.agg #[.int .i64 x1, .int .i64 y1, .int .i64 x2, .int .i64 y2]) (fun u w hd => wanted_on 37 58 true rfl rfl (congrArg some (hd.get 0 _ rfl rfl))) (fun _ _ => rfl) (fun _ => rfl) (fun u w hW hC (hd : After _ _ u w) ρ hρ => ?_)) ?_
        · have r3 : ρ (.tmp 3) = .pointer (some ⟨w1.heap.size, 0, none⟩) := (by subst hρ; rfl); clear hρ hd
          (go_simp; (try (first | exact wrap_in _ (by omega) (by omega) | exact HZ.out | exact HN.out | rw [if_pos HZ.out.1, if_pos HZ.out.2])))
        refine FSteps.cons (FStep.value (.agg #[.int .i64 x3, .int .i64 y3, .int .i64 x4, .int .i64 y4]) (fun u w hd => wanted_on 37 58 true rfl rfl (congrArg some (hd.get 0 _ rfl rfl))) (fun _ _ => rfl) (fun _ => rfl) (fun u w hW hC (hd : After _ _ u w) ρ hρ => ?_)) ?_
        · have r4 : ρ (.tmp 4) = .pointer (some ⟨w1.heap.size + 1, 0, none⟩) := (by subst hρ; rfl); clear hρ hd
          (go_simp; (try (first | exact wrap_in _ (by omega) (by omega) | exact HZ.out | exact HN.out | rw [if_pos HZ.out.1, if_pos HZ.out.2])))
        refine FSteps.cons (FStep.call (.bool false) _ #[.agg #[.int .i64 x1, .int .i64 y1, .int .i64 x2, .int .i64 y2], .agg #[.int .i64 x3, .int .i64 y3, .int .i64 x4, .int .i64 y4]] (fun u w hd => wanted_on 37 58 true rfl rfl (congrArg some (hd.get 2 _ rfl rfl))) (fun _ _ => rfl) (fun _ => rfl) (fun u w hW hC (hd : After _ _ u w) ρ hρ => ?_) (fun w => DoCross_at _ _ _ _ _ _ _ _ _ w F1.out)) ?_
        · have r59 : ρ (.tmp 59) = .agg #[.int .i64 x1, .int .i64 y1, .int .i64 x2, .int .i64 y2] := (by rw [hρ]; exact hd.get 0 _ rfl rfl); have r60 : ρ (.tmp 60) = .agg #[.int .i64 x3, .int .i64 y3, .int .i64 x4, .int .i64 y4] := (by rw [hρ]; exact hd.get 1 _ rfl rfl); have rf : ∀ f, ρ (.func f) = .func (.func f) #[] #[] := (by subst hρ; exact fun _ => rfl); clear hρ hd
          (go_simp; (try (first | exact wrap_in _ (by omega) (by omega) | exact HZ.out | exact HN.out | rw [if_pos HZ.out.1, if_pos HZ.out.2])))
        refine FSteps.cons (FStep.value (.bool true) (fun u w hd => wanted_on 37 58 true rfl rfl (congrArg some (hd.get 1 _ rfl rfl))) (fun _ _ => rfl) (fun _ => rfl) (fun u w hW hC (hd : After _ _ u w) ρ hρ => ?_)) ?_
        · have r61 : ρ (.tmp 61) = .bool false := (by rw [hρ]; exact hd.get 0 _ rfl rfl); clear hρ hd
          (go_simp; (try (first | exact wrap_in _ (by omega) (by omega) | exact HZ.out | exact HN.out | rw [if_pos HZ.out.1, if_pos HZ.out.2])))
        refine FSteps.cons (FStep.value (.bool true) (fun u w hd => wanted_on 33 54 false rfl rfl (congrArg some (hd.get 2 _ rfl rfl))) (fun _ _ => rfl) (fun _ => rfl) (fun u w hW hC (hd : After _ _ u w) ρ hρ => ?_)) ?_
        · have r58 : ρ (.tmp 58) = .bool true := (by rw [hρ]; exact hd.get 0 _ rfl rfl); have r62 : ρ (.tmp 62) = .bool true := (by rw [hρ]; exact hd.get 1 _ rfl rfl); have rc : ∀ v, ρ (.const v) = v := (by subst hρ; exact fun _ => rfl); clear hρ hd
          (go_simp; (try (first | exact wrap_in _ (by omega) (by omega) | exact HZ.out | exact HN.out | rw [if_pos HZ.out.1, if_pos HZ.out.2])))
        refine FSteps.cons (FStep.value (.bool true) (fun u w hd => wanted_on 27 48 true rfl rfl (congrArg some (hd.get 2 _ rfl rfl))) (fun _ _ => rfl) (fun _ => rfl) (fun u w hW hC (hd : After _ _ u w) ρ hρ => ?_)) ?_
        · have r54 : ρ (.tmp 54) = .bool false := (by rw [hρ]; exact hd.get 0 _ rfl rfl); have r63 : ρ (.tmp 63) = .bool true := (by rw [hρ]; exact hd.get 1 _ rfl rfl); have rc : ∀ v, ρ (.const v) = v := (by subst hρ; exact fun _ => rfl); clear hρ hd
          (go_simp; (try (first | exact wrap_in _ (by omega) (by omega) | exact HZ.out | exact HN.out | rw [if_pos HZ.out.1, if_pos HZ.out.2])))
        refine FSteps.cons (FStep.value (.bool true) (fun _ _ _ => wanted_none rfl) (fun _ _ => rfl) (fun _ => rfl) (fun u w hW hC (hd : After _ _ u w) ρ hρ => ?_)) ?_
        · have r48 : ρ (.tmp 48) = .bool true := (by rw [hρ]; exact hd.get 0 _ rfl rfl); have r64 : ρ (.tmp 64) = .bool true := (by rw [hρ]; exact hd.get 1 _ rfl rfl); have rc : ∀ v, ρ (.const v) = v := (by subst hρ; exact fun _ => rfl); clear hρ hd
          (go_simp; (try (first | exact wrap_in _ (by omega) (by omega) | exact HZ.out | exact HN.out | rw [if_pos HZ.out.1, if_pos HZ.out.2])))
        refine FSteps.cons (FStep.value (.bool true) (fun _ _ _ => wanted_none rfl) (fun _ _ => rfl) (fun _ => rfl) (fun u w hW hC (hd : After _ _ u w) ρ hρ => ?_)) ?_
        · have r65 : ρ (.tmp 65) = .bool true := (by rw [hρ]; exact hd.get 0 _ rfl rfl); clear hρ hd
          (go_simp; (try (first | exact wrap_in _ (by omega) (by omega) | exact HZ.out | exact HN.out | rw [if_pos HZ.out.1, if_pos HZ.out.2])))
        refine FSteps.cons (FStep.value (.int .i64 (n)) (fun u w hd => wanted_on 45 66 true rfl rfl (congrArg some (hd.get 0 _ rfl rfl))) (fun _ _ => rfl) (fun _ => rfl) (fun u w hW hC (hd : After _ _ u w) ρ hρ => ?_)) ?_
        · have r5 : ρ (.tmp 5) = .int .i64 (n) := (by subst hρ; rfl); clear hρ hd
          (go_simp; (try (first | exact wrap_in _ (by omega) (by omega) | exact HZ.out | exact HN.out | rw [if_pos HZ.out.1, if_pos HZ.out.2])))
        refine FSteps.cons (FStep.value (.bool true) (fun u w hd => wanted_on 45 66 true rfl rfl (congrArg some (hd.get 1 _ rfl rfl))) (fun _ _ => rfl) (fun _ => rfl) (fun u w hW hC (hd : After _ _ u w) ρ hρ => ?_)) ?_
        · have r67 : ρ (.tmp 67) = .int .i64 (n) := (by rw [hρ]; exact hd.get 0 _ rfl rfl); have rc : ∀ v, ρ (.const v) = v := (by subst hρ; exact fun _ => rfl); clear hρ hd
          (go_simp; (try (first | exact wrap_in _ (by omega) (by omega) | exact HZ.out | exact HN.out | rw [if_pos HZ.out.1, if_pos HZ.out.2])))
        refine FSteps.cons (FStep.value (.bool true) (fun _ _ _ => wanted_none rfl) (fun _ _ => rfl) (fun _ => rfl) (fun u w hW hC (hd : After _ _ u w) ρ hρ => ?_)) ?_
        · have r66 : ρ (.tmp 66) = .bool true := (by rw [hρ]; exact hd.get 0 _ rfl rfl); have r68 : ρ (.tmp 68) = .bool true := (by rw [hρ]; exact hd.get 1 _ rfl rfl); have rc : ∀ v, ρ (.const v) = v := (by subst hρ; exact fun _ => rfl); clear hρ hd
          (go_simp; (try (first | exact wrap_in _ (by omega) (by omega) | exact HZ.out | exact HN.out | rw [if_pos HZ.out.1, if_pos HZ.out.2])))
        refine FSteps.cons (FStep.value (.bool true) (fun _ _ _ => wanted_none rfl) (fun _ _ => rfl) (fun _ => rfl) (fun u w hW hC (hd : After _ _ u w) ρ hρ => ?_)) ?_
        · have r69 : ρ (.tmp 69) = .bool true := (by rw [hρ]; exact hd.get 0 _ rfl rfl); clear hρ hd
          (go_simp; (try (first | exact wrap_in _ (by omega) (by omega) | exact HZ.out | exact HN.out | rw [if_pos HZ.out.1, if_pos HZ.out.2])))
        refine FSteps.cons (FStep.value (.int .i64 (n)) (fun u w hd => wanted_on 49 70 true rfl rfl (congrArg some (hd.get 0 _ rfl rfl))) (fun _ _ => rfl) (fun _ => rfl) (fun u w hW hC (hd : After _ _ u w) ρ hρ => ?_)) ?_
        · have r5 : ρ (.tmp 5) = .int .i64 (n) := (by subst hρ; rfl); clear hρ hd
          (go_simp; (try (first | exact wrap_in _ (by omega) (by omega) | exact HZ.out | exact HN.out | rw [if_pos HZ.out.1, if_pos HZ.out.2])))
        refine FSteps.cons (FStep.value (.bool true) (fun u w hd => wanted_on 49 70 true rfl rfl (congrArg some (hd.get 1 _ rfl rfl))) (fun _ _ => rfl) (fun _ => rfl) (fun u w hW hC (hd : After _ _ u w) ρ hρ => ?_)) ?_
        · have r71 : ρ (.tmp 71) = .int .i64 (n) := (by rw [hρ]; exact hd.get 0 _ rfl rfl); have rc : ∀ v, ρ (.const v) = v := (by subst hρ; exact fun _ => rfl); clear hρ hd
          (go_simp; (try (first | exact wrap_in _ (by omega) (by omega) | exact HZ.out | exact HN.out | rw [if_pos HZ.out.1, if_pos HZ.out.2])))
        refine FSteps.cons (FStep.value (.bool true) (fun _ _ _ => wanted_none rfl) (fun _ _ => rfl) (fun _ => rfl) (fun u w hW hC (hd : After _ _ u w) ρ hρ => ?_)) ?_
        · have r70 : ρ (.tmp 70) = .bool true := (by rw [hρ]; exact hd.get 0 _ rfl rfl); have r72 : ρ (.tmp 72) = .bool true := (by rw [hρ]; exact hd.get 1 _ rfl rfl); have rc : ∀ v, ρ (.const v) = v := (by subst hρ; exact fun _ => rfl); clear hρ hd
          (go_simp; (try (first | exact wrap_in _ (by omega) (by omega) | exact HZ.out | exact HN.out | rw [if_pos HZ.out.1, if_pos HZ.out.2])))
        refine FSteps.cons (FStep.value (.bool true) (fun _ _ _ => wanted_none rfl) (fun _ _ => rfl) (fun _ => rfl) (fun u w hW hC (hd : After _ _ u w) ρ hρ => ?_)) ?_
        · have r73 : ρ (.tmp 73) = .bool true := (by rw [hρ]; exact hd.get 0 _ rfl rfl); clear hρ hd
          (go_simp; (try (first | exact wrap_in _ (by omega) (by omega) | exact HZ.out | exact HN.out | rw [if_pos HZ.out.1, if_pos HZ.out.2])))
        refine FSteps.cons (FStep.value (.agg #[.int .i64 x3, .int .i64 y3, .int .i64 x4, .int .i64 y4]) (fun u w hd => wanted_on 53 74 true rfl rfl (congrArg some (hd.get 0 _ rfl rfl))) (fun _ _ => rfl) (fun _ => rfl) (fun u w hW hC (hd : After _ _ u w) ρ hρ => ?_)) ?_
        · have r4 : ρ (.tmp 4) = .pointer (some ⟨w1.heap.size + 1, 0, none⟩) := (by subst hρ; rfl); clear hρ hd
          (go_simp; (try (first | exact wrap_in _ (by omega) (by omega) | exact HZ.out | exact HN.out | rw [if_pos HZ.out.1, if_pos HZ.out.2])))
        refine FSteps.cons (FStep.call (.int .i64 (q)) _ #[.agg #[.int .i64 x3, .int .i64 y3, .int .i64 x4, .int .i64 y4]] (fun u w hd => wanted_on 53 74 true rfl rfl (congrArg some (hd.get 1 _ rfl rfl))) (fun _ _ => rfl) (fun _ => rfl) (fun u w hW hC (hd : After _ _ u w) ρ hρ => ?_) (fun w => LengthSquare_at _ _ _ _ _ w F5.out)) ?_
        · have r75 : ρ (.tmp 75) = .agg #[.int .i64 x3, .int .i64 y3, .int .i64 x4, .int .i64 y4] := (by rw [hρ]; exact hd.get 0 _ rfl rfl); have rf : ∀ f, ρ (.func f) = .func (.func f) #[] #[] := (by subst hρ; exact fun _ => rfl); clear hρ hd
          (go_simp; (try (first | exact wrap_in _ (by omega) (by omega) | exact HZ.out | exact HN.out | rw [if_pos HZ.out.1, if_pos HZ.out.2])))
        refine FSteps.cons (FStep.value (.int .i64 (n)) (fun u w hd => wanted_on 53 74 true rfl rfl (congrArg some (hd.get 0 _ rfl rfl))) (fun _ _ => rfl) (fun _ => rfl) (fun u w hW hC (hd : After _ _ u w) ρ hρ => ?_)) ?_
        · have r5 : ρ (.tmp 5) = .int .i64 (n) := (by subst hρ; rfl); clear hρ hd
          (go_simp; (try (first | exact wrap_in _ (by omega) (by omega) | exact HZ.out | exact HN.out | rw [if_pos HZ.out.1, if_pos HZ.out.2])))
        refine FSteps.cons (FStep.value (.int .i64 (n)) (fun u w hd => wanted_on 53 74 true rfl rfl (congrArg some (hd.get 0 _ rfl rfl))) (fun _ _ => rfl) (fun _ => rfl) (fun u w hW hC (hd : After _ _ u w) ρ hρ => ?_)) ?_
        · have r5 : ρ (.tmp 5) = .int .i64 (n) := (by subst hρ; rfl); clear hρ hd
          (go_simp; (try (first | exact wrap_in _ (by omega) (by omega) | exact HZ.out | exact HN.out | rw [if_pos HZ.out.1, if_pos HZ.out.2])))
        refine FSteps.cons (FStep.value (.int .i64 (nn)) (fun u w hd => wanted_on 53 74 true rfl rfl (congrArg some (hd.get 2 _ rfl rfl))) (fun _ _ => rfl) (fun _ => rfl) (fun u w hW hC (hd : After _ _ u w) ρ hρ => ?_)) ?_
        · have r77 : ρ (.tmp 77) = .int .i64 (n) := (by rw [hρ]; exact hd.get 0 _ rfl rfl); have r78 : ρ (.tmp 78) = .int .i64 (n) := (by rw [hρ]; exact hd.get 1 _ rfl rfl); clear hρ hd
          (go_simp; (try (first | exact wrap_in _ (by omega) (by omega) | exact HZ.out | exact HN.out | rw [if_pos HZ.out.1, if_pos HZ.out.2])))
        refine FSteps.cons (FStep.value (.int .i64 (0)) (fun u w hd => wanted_on 53 74 true rfl rfl (congrArg some (hd.get 2 _ rfl rfl))) (fun _ _ => rfl) (fun _ => rfl) (fun u w hW hC (hd : After _ _ u w) ρ hρ => ?_)) ?_
        · have r76 : ρ (.tmp 76) = .int .i64 (q) := (by rw [hρ]; exact hd.get 0 _ rfl rfl); have r79 : ρ (.tmp 79) = .int .i64 (nn) := (by rw [hρ]; exact hd.get 1 _ rfl rfl); clear hρ hd
          (go_simp; (try (first | exact wrap_in _ (by omega) (by omega) | exact HZ.out | exact HN.out | rw [if_pos HZ.out.1, if_pos HZ.out.2])))
        refine FSteps.cons (FStep.value (.bool true) (fun u w hd => wanted_on 53 74 true rfl rfl (congrArg some (hd.get 1 _ rfl rfl))) (fun _ _ => rfl) (fun _ => rfl) (fun u w hW hC (hd : After _ _ u w) ρ hρ => ?_)) ?_
        · have r80 : ρ (.tmp 80) = .int .i64 (0) := (by rw [hρ]; exact hd.get 0 _ rfl rfl); have rc : ∀ v, ρ (.const v) = v := (by subst hρ; exact fun _ => rfl); clear hρ hd
          (go_simp; (try (first | exact wrap_in _ (by omega) (by omega) | exact HZ.out | exact HN.out | rw [if_pos HZ.out.1, if_pos HZ.out.2])))
        refine FSteps.cons (FStep.value (.bool true) (fun _ _ _ => wanted_none rfl) (fun _ _ => rfl) (fun _ => rfl) (fun u w hW hC (hd : After _ _ u w) ρ hρ => ?_)) ?_
        · have r74 : ρ (.tmp 74) = .bool true := (by rw [hρ]; exact hd.get 0 _ rfl rfl); have r81 : ρ (.tmp 81) = .bool true := (by rw [hρ]; exact hd.get 1 _ rfl rfl); have rc : ∀ v, ρ (.const v) = v := (by subst hρ; exact fun _ => rfl); clear hρ hd
          (go_simp; (try (first | exact wrap_in _ (by omega) (by omega) | exact HZ.out | exact HN.out | rw [if_pos HZ.out.1, if_pos HZ.out.2])))
        refine FSteps.cons (FStep.value (.bool true) (fun _ _ _ => wanted_none rfl) (fun _ _ => rfl) (fun _ => rfl) (fun u w hW hC (hd : After _ _ u w) ρ hρ => ?_)) ?_
        · have r82 : ρ (.tmp 82) = .bool true := (by rw [hρ]; exact hd.get 0 _ rfl rfl); clear hρ hd
          (go_simp; (try (first | exact wrap_in _ (by omega) (by omega) | exact HZ.out | exact HN.out | rw [if_pos HZ.out.1, if_pos HZ.out.2])))
        refine FSteps.cons (FStep.value (.agg #[.int .i64 x4, .int .i64 y4, .int .i64 x3, .int .i64 y3]) (fun u w hd => wanted_on 62 83 true rfl rfl (congrArg some (hd.get 0 _ rfl rfl))) (fun _ _ => rfl) (fun _ => rfl) (fun u w hW hC (hd : After _ _ u w) ρ hρ => ?_)) ?_
        · have r6 : ρ (.tmp 6) = .pointer (some ⟨wz.heap.size, 0, none⟩) := (by subst hρ; rfl); clear hρ hd
          (go_simp; (try (first | exact wrap_in _ (by omega) (by omega) | exact HZ.out | exact HN.out | rw [if_pos HZ.out.1, if_pos HZ.out.2])))
        refine FSteps.cons (FStep.call (.int .i64 (n)) _ #[.agg #[.int .i64 x4, .int .i64 y4, .int .i64 x3, .int .i64 y3]] (fun u w hd => wanted_on 62 83 true rfl rfl (congrArg some (hd.get 1 _ rfl rfl))) (fun _ _ => rfl) (fun _ => rfl) (fun u w hW hC (hd : After _ _ u w) ρ hρ => ?_) (fun w => LatticeSteps_at _ _ _ _ _ w F6.out)) ?_
        · have r84 : ρ (.tmp 84) = .agg #[.int .i64 x4, .int .i64 y4, .int .i64 x3, .int .i64 y3] := (by rw [hρ]; exact hd.get 0 _ rfl rfl); have rf : ∀ f, ρ (.func f) = .func (.func f) #[] #[] := (by subst hρ; exact fun _ => rfl); clear hρ hd
          (go_simp; (try (first | exact wrap_in _ (by omega) (by omega) | exact HZ.out | exact HN.out | rw [if_pos HZ.out.1, if_pos HZ.out.2])))
        refine FSteps.cons (FStep.value (.int .i64 (n)) (fun u w hd => wanted_on 62 83 true rfl rfl (congrArg some (hd.get 0 _ rfl rfl))) (fun _ _ => rfl) (fun _ => rfl) (fun u w hW hC (hd : After _ _ u w) ρ hρ => ?_)) ?_
        · have r5 : ρ (.tmp 5) = .int .i64 (n) := (by subst hρ; rfl); clear hρ hd
          (go_simp; (try (first | exact wrap_in _ (by omega) (by omega) | exact HZ.out | exact HN.out | rw [if_pos HZ.out.1, if_pos HZ.out.2])))
        refine FSteps.cons (FStep.value (.bool true) (fun u w hd => wanted_on 62 83 true rfl rfl (congrArg some (hd.get 2 _ rfl rfl))) (fun _ _ => rfl) (fun _ => rfl) (fun u w hW hC (hd : After _ _ u w) ρ hρ => ?_)) ?_
        · have r85 : ρ (.tmp 85) = .int .i64 (n) := (by rw [hρ]; exact hd.get 0 _ rfl rfl); have r86 : ρ (.tmp 86) = .int .i64 (n) := (by rw [hρ]; exact hd.get 1 _ rfl rfl); clear hρ hd
          (go_simp; (try (first | exact wrap_in _ (by omega) (by omega) | exact HZ.out | exact HN.out | rw [if_pos HZ.out.1, if_pos HZ.out.2])))
        refine FSteps.cons (FStep.value (.bool true) (fun _ _ _ => wanted_none rfl) (fun _ _ => rfl) (fun _ => rfl) (fun u w hW hC (hd : After _ _ u w) ρ hρ => ?_)) ?_
        · have r83 : ρ (.tmp 83) = .bool true := (by rw [hρ]; exact hd.get 0 _ rfl rfl); have r87 : ρ (.tmp 87) = .bool true := (by rw [hρ]; exact hd.get 1 _ rfl rfl); have rc : ∀ v, ρ (.const v) = v := (by subst hρ; exact fun _ => rfl); clear hρ hd
          (go_simp; (try (first | exact wrap_in _ (by omega) (by omega) | exact HZ.out | exact HN.out | rw [if_pos HZ.out.1, if_pos HZ.out.2])))
        refine FSteps.cons (FStep.value (.bool true) (fun _ _ _ => wanted_none rfl) (fun _ _ => rfl) (fun _ => rfl) (fun u w hW hC (hd : After _ _ u w) ρ hρ => ?_)) ?_
        · have r88 : ρ (.tmp 88) = .bool true := (by rw [hρ]; exact hd.get 0 _ rfl rfl); clear hρ hd
          (go_simp; (try (first | exact wrap_in _ (by omega) (by omega) | exact HZ.out | exact HN.out | rw [if_pos HZ.out.1, if_pos HZ.out.2])))
        refine FSteps.cons (FStep.value (.agg #[.int .i64 x1, .int .i64 y1, .int .i64 x2, .int .i64 y2]) (fun u w hd => wanted_on 68 89 true rfl rfl (congrArg some (hd.get 0 _ rfl rfl))) (fun _ _ => rfl) (fun _ => rfl) (fun u w hW hC (hd : After _ _ u w) ρ hρ => ?_)) ?_
        · have r3 : ρ (.tmp 3) = .pointer (some ⟨w1.heap.size, 0, none⟩) := (by subst hρ; rfl); clear hρ hd
          (go_simp; (try (first | exact wrap_in _ (by omega) (by omega) | exact HZ.out | exact HN.out | rw [if_pos HZ.out.1, if_pos HZ.out.2])))
        refine FSteps.cons (FStep.value (.agg #[.int .i64 x4, .int .i64 y4, .int .i64 x3, .int .i64 y3]) (fun u w hd => wanted_on 68 89 true rfl rfl (congrArg some (hd.get 0 _ rfl rfl))) (fun _ _ => rfl) (fun _ => rfl) (fun u w hW hC (hd : After _ _ u w) ρ hρ => ?_)) ?_
        · have r6 : ρ (.tmp 6) = .pointer (some ⟨wz.heap.size, 0, none⟩) := (by subst hρ; rfl); clear hρ hd
          (go_simp; (try (first | exact wrap_in _ (by omega) (by omega) | exact HZ.out | exact HN.out | rw [if_pos HZ.out.1, if_pos HZ.out.2])))
        refine FSteps.cons (FStep.call (.bool false) _ #[.agg #[.int .i64 x1, .int .i64 y1, .int .i64 x2, .int .i64 y2], .agg #[.int .i64 x4, .int .i64 y4, .int .i64 x3, .int .i64 y3]] (fun u w hd => wanted_on 68 89 true rfl rfl (congrArg some (hd.get 2 _ rfl rfl))) (fun _ _ => rfl) (fun _ => rfl) (fun u w hW hC (hd : After _ _ u w) ρ hρ => ?_) (fun w => DoCross_at _ _ _ _ _ _ _ _ _ w F7.out)) ?_
        · have r90 : ρ (.tmp 90) = .agg #[.int .i64 x1, .int .i64 y1, .int .i64 x2, .int .i64 y2] := (by rw [hρ]; exact hd.get 0 _ rfl rfl); have r91 : ρ (.tmp 91) = .agg #[.int .i64 x4, .int .i64 y4, .int .i64 x3, .int .i64 y3] := (by rw [hρ]; exact hd.get 1 _ rfl rfl); have rf : ∀ f, ρ (.func f) = .func (.func f) #[] #[] := (by subst hρ; exact fun _ => rfl); clear hρ hd
          (go_simp; (try (first | exact wrap_in _ (by omega) (by omega) | exact HZ.out | exact HN.out | rw [if_pos HZ.out.1, if_pos HZ.out.2])))
        refine FSteps.cons (FStep.value (.agg #[.int .i64 x1, .int .i64 y1, .int .i64 x2, .int .i64 y2]) (fun u w hd => wanted_on 68 89 true rfl rfl (congrArg some (hd.get 0 _ rfl rfl))) (fun _ _ => rfl) (fun _ => rfl) (fun u w hW hC (hd : After _ _ u w) ρ hρ => ?_)) ?_
        · have r3 : ρ (.tmp 3) = .pointer (some ⟨w1.heap.size, 0, none⟩) := (by subst hρ; rfl); clear hρ hd
          (go_simp; (try (first | exact wrap_in _ (by omega) (by omega) | exact HZ.out | exact HN.out | rw [if_pos HZ.out.1, if_pos HZ.out.2])))
        refine FSteps.cons (FStep.value (.agg #[.int .i64 x3, .int .i64 y3, .int .i64 x4, .int .i64 y4]) (fun u w hd => wanted_on 68 89 true rfl rfl (congrArg some (hd.get 0 _ rfl rfl))) (fun _ _ => rfl) (fun _ => rfl) (fun u w hW hC (hd : After _ _ u w) ρ hρ => ?_)) ?_
        · have r4 : ρ (.tmp 4) = .pointer (some ⟨w1.heap.size + 1, 0, none⟩) := (by subst hρ; rfl); clear hρ hd
          (go_simp; (try (first | exact wrap_in _ (by omega) (by omega) | exact HZ.out | exact HN.out | rw [if_pos HZ.out.1, if_pos HZ.out.2])))
        refine FSteps.cons (FStep.call (.bool false) _ #[.agg #[.int .i64 x1, .int .i64 y1, .int .i64 x2, .int .i64 y2], .agg #[.int .i64 x3, .int .i64 y3, .int .i64 x4, .int .i64 y4]] (fun u w hd => wanted_on 68 89 true rfl rfl (congrArg some (hd.get 3 _ rfl rfl))) (fun _ _ => rfl) (fun _ => rfl) (fun u w hW hC (hd : After _ _ u w) ρ hρ => ?_) (fun w => DoCross_at _ _ _ _ _ _ _ _ _ w F1.out)) ?_
        · have r93 : ρ (.tmp 93) = .agg #[.int .i64 x1, .int .i64 y1, .int .i64 x2, .int .i64 y2] := (by rw [hρ]; exact hd.get 0 _ rfl rfl); have r94 : ρ (.tmp 94) = .agg #[.int .i64 x3, .int .i64 y3, .int .i64 x4, .int .i64 y4] := (by rw [hρ]; exact hd.get 1 _ rfl rfl); have rf : ∀ f, ρ (.func f) = .func (.func f) #[] #[] := (by subst hρ; exact fun _ => rfl); clear hρ hd
          (go_simp; (try (first | exact wrap_in _ (by omega) (by omega) | exact HZ.out | exact HN.out | rw [if_pos HZ.out.1, if_pos HZ.out.2])))
        refine FSteps.cons (FStep.value (.bool true) (fun u w hd => wanted_on 68 89 true rfl rfl (congrArg some (hd.get 2 _ rfl rfl))) (fun _ _ => rfl) (fun _ => rfl) (fun u w hW hC (hd : After _ _ u w) ρ hρ => ?_)) ?_
        · have r92 : ρ (.tmp 92) = .bool false := (by rw [hρ]; exact hd.get 0 _ rfl rfl); have r95 : ρ (.tmp 95) = .bool false := (by rw [hρ]; exact hd.get 1 _ rfl rfl); clear hρ hd
          (go_simp; (try (first | exact wrap_in _ (by omega) (by omega) | exact HZ.out | exact HN.out | rw [if_pos HZ.out.1, if_pos HZ.out.2])))
        refine FSteps.cons (FStep.value (.bool true) (fun _ _ _ => wanted_none rfl) (fun _ _ => rfl) (fun _ => rfl) (fun u w hW hC (hd : After _ _ u w) ρ hρ => ?_)) ?_
        · have r89 : ρ (.tmp 89) = .bool true := (by rw [hρ]; exact hd.get 0 _ rfl rfl); have r96 : ρ (.tmp 96) = .bool true := (by rw [hρ]; exact hd.get 1 _ rfl rfl); have rc : ∀ v, ρ (.const v) = v := (by subst hρ; exact fun _ => rfl); clear hρ hd
          (go_simp; (try (first | exact wrap_in _ (by omega) (by omega) | exact HZ.out | exact HN.out | rw [if_pos HZ.out.1, if_pos HZ.out.2])))
        refine FSteps.cons (FStep.value (.bool true) (fun _ _ _ => wanted_none rfl) (fun _ _ => rfl) (fun _ => rfl) (fun u w hW hC (hd : After _ _ u w) ρ hρ => ?_)) ?_
        · have r97 : ρ (.tmp 97) = .bool true := (by rw [hρ]; exact hd.get 0 _ rfl rfl); clear hρ hd
          (go_simp; (try (first | exact wrap_in _ (by omega) (by omega) | exact HZ.out | exact HN.out | rw [if_pos HZ.out.1, if_pos HZ.out.2])))
        refine FSteps.cons (FStep.value (.agg #[.int .i64 x3, .int .i64 y3, .int .i64 x4, .int .i64 y4]) (fun u w hd => wanted_on 77 98 true rfl rfl (congrArg some (hd.get 0 _ rfl rfl))) (fun _ _ => rfl) (fun _ => rfl) (fun u w hW hC (hd : After _ _ u w) ρ hρ => ?_)) ?_
        · have r4 : ρ (.tmp 4) = .pointer (some ⟨w1.heap.size + 1, 0, none⟩) := (by subst hρ; rfl); clear hρ hd
          (go_simp; (try (first | exact wrap_in _ (by omega) (by omega) | exact HZ.out | exact HN.out | rw [if_pos HZ.out.1, if_pos HZ.out.2])))
        refine FSteps.cons (FStep.value (.pointer (some ⟨w1.heap.size + 1, 0, none⟩)) (fun u w hd => wanted_on 77 98 true rfl rfl (congrArg some (hd.get 0 _ rfl rfl))) (fun _ _ => rfl) (fun _ => rfl) (fun u w hW hC (hd : After _ _ u w) ρ hρ => ?_)) ?_
        · have r4 : ρ (.tmp 4) = .pointer (some ⟨w1.heap.size + 1, 0, none⟩) := (by subst hρ; rfl); clear hρ hd
          (go_simp; (try (first | exact wrap_in _ (by omega) (by omega) | exact HZ.out | exact HN.out | rw [if_pos HZ.out.1, if_pos HZ.out.2])))
        refine FSteps.cons (FStep.value (.agg #[.int .i64 x3, .int .i64 y3]) (fun u w hd => wanted_on 77 98 true rfl rfl (congrArg some (hd.get 1 _ rfl rfl))) (fun _ _ => rfl) (fun _ => rfl) (fun u w hW hC (hd : After _ _ u w) ρ hρ => ?_)) ?_
        · have r100 : ρ (.tmp 100) = .pointer (some ⟨w1.heap.size + 1, 0, none⟩) := (by rw [hρ]; exact hd.get 0 _ rfl rfl); clear hρ hd
          (go_simp; (try (first | exact wrap_in _ (by omega) (by omega) | exact HZ.out | exact HN.out | rw [if_pos HZ.out.1, if_pos HZ.out.2])))
        refine FSteps.cons (FStep.call (.bool true) _ #[.agg #[.int .i64 x3, .int .i64 y3, .int .i64 x4, .int .i64 y4], .agg #[.int .i64 x3, .int .i64 y3]] (fun u w hd => wanted_on 77 98 true rfl rfl (congrArg some (hd.get 2 _ rfl rfl))) (fun _ _ => rfl) (fun _ => rfl) (fun u w hW hC (hd : After _ _ u w) ρ hρ => ?_) (fun w => IsOnWall_at _ _ _ _ _ _ _ w F8.out)) ?_
        · have r99 : ρ (.tmp 99) = .agg #[.int .i64 x3, .int .i64 y3, .int .i64 x4, .int .i64 y4] := (by rw [hρ]; exact hd.get 0 _ rfl rfl); have r101 : ρ (.tmp 101) = .agg #[.int .i64 x3, .int .i64 y3] := (by rw [hρ]; exact hd.get 1 _ rfl rfl); have rf : ∀ f, ρ (.func f) = .func (.func f) #[] #[] := (by subst hρ; exact fun _ => rfl); clear hρ hd
          (go_simp; (try (first | exact wrap_in _ (by omega) (by omega) | exact HZ.out | exact HN.out | rw [if_pos HZ.out.1, if_pos HZ.out.2])))
        refine FSteps.cons (FStep.value (.bool true) (fun _ _ _ => wanted_none rfl) (fun _ _ => rfl) (fun _ => rfl) (fun u w hW hC (hd : After _ _ u w) ρ hρ => ?_)) ?_
        · have r98 : ρ (.tmp 98) = .bool true := (by rw [hρ]; exact hd.get 0 _ rfl rfl); have r102 : ρ (.tmp 102) = .bool true := (by rw [hρ]; exact hd.get 1 _ rfl rfl); have rc : ∀ v, ρ (.const v) = v := (by subst hρ; exact fun _ => rfl); clear hρ hd
          (go_simp; (try (first | exact wrap_in _ (by omega) (by omega) | exact HZ.out | exact HN.out | rw [if_pos HZ.out.1, if_pos HZ.out.2])))
        refine FSteps.cons (FStep.value (.bool true) (fun _ _ _ => wanted_none rfl) (fun _ _ => rfl) (fun _ => rfl) (fun u w hW hC (hd : After _ _ u w) ρ hρ => ?_)) ?_
        · have r103 : ρ (.tmp 103) = .bool true := (by rw [hρ]; exact hd.get 0 _ rfl rfl); clear hρ hd
          (go_simp; (try (first | exact wrap_in _ (by omega) (by omega) | exact HZ.out | exact HN.out | rw [if_pos HZ.out.1, if_pos HZ.out.2])))
        exact FSteps.nil
      case hV4 => (simp only [List.forall_mem_cons]; simp [stable_is])
      case fin4 =>
        intro u w2 hW2 hC2 hd
        have e83 : u 83 = .bool true := AllV.get _ 0 83 u w2 _ hd rfl
        clear hd
        refine then_normal ?_
        go_step
        refine wp_ret ?_
        refine bodyPost_ret (results_tmp rfl _ _ _) rfl ?_
        refine ⟨congrArg Ending.returned e83, Below.trans hx1 (Below.mono (show Ext w1 _ by (repeat (first | exact Ext.refl _ | assumption | apply Ext.alloc | apply Ext.drew | apply Ext.drewN | (refine Ext.trans ?_ (by assumption))))).below hx1.size)⟩

end Go.Proofs.Ytnomiefjefopbaa
