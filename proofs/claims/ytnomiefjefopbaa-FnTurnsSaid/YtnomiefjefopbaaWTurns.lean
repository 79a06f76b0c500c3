/- The walk of FnTurns. -/
import Derived.Test.YtnomiefjefopbaaDrawP
import Derived.Test.YtnomiefjefopbaaFastF
import Derived.Test.YtnomiefjefopbaaPts
import Derived.Test.YtnomiefjefopbaaNear
namespace Go.Proofs.Ytnomiefjefopbaa
open Go.RowKit

theorem mul_bd8 {a b : Int} (ha : -8 ≤ a ∧ a ≤ 8) (hb : -8 ≤ b ∧ b ≤ 8) : -64 ≤ a * b ∧ a * b ≤ 64 := by
  have h : a = -8 ∨ a = -7 ∨ a = -6 ∨ a = -5 ∨ a = -4 ∨ a = -3 ∨ a = -2 ∨ a = -1 ∨ a = 0 ∨ a = 1 ∨ a = 2 ∨ a = 3 ∨ a = 4 ∨ a = 5 ∨ a = 6 ∨ a = 7 ∨ a = 8 := by omega
  rcases h with rfl | rfl | rfl | rfl | rfl | rfl | rfl | rfl | rfl | rfl | rfl | rfl | rfl | rfl | rfl | rfl | rfl <;> omega
theorem sq_bd {t : Int} {M : Int} (h : -M ≤ t ∧ t ≤ M) : 0 ≤ t * t ∧ t * t ≤ M * M := by
  have h1 := Int.mul_nonneg (show 0 ≤ M - t by omega) (show 0 ≤ M + t by omega)
  have h2 : (M - t) * (M + t) = M * M - t * t := by grind
  refine ⟨?_, by omega⟩
  rcases Int.le_total 0 t with h3 | h3
  · exact Int.mul_nonneg h3 h3
  · have := Int.mul_nonneg (show 0 ≤ -t by omega) (show 0 ≤ -t by omega)
    have e : -t * -t = t * t := by grind
    omega

theorem pok_small {x y : Int} (h : (-2 ≤ x ∧ x ≤ 6) ∧ (-2 ≤ y ∧ y ≤ 6)) : pok x y = true := by
  simp [pok, inB]
  omega
theorem TurnV_small {ax ay bx by_ cx cy : Int} (ha : (-2 ≤ ax ∧ ax ≤ 6) ∧ (-2 ≤ ay ∧ ay ≤ 6)) (hb : (-2 ≤ bx ∧ bx ≤ 6) ∧ (-2 ≤ by_ ∧ by_ ≤ 6)) (hc : (-2 ≤ cx ∧ cx ≤ 6) ∧ (-2 ≤ cy ∧ cy ≤ 6)) : TurnV ax ay bx by_ cx cy = turnZ ax ay bx by_ cx cy := by
  unfold TurnV
  rw [if_pos (by simp [pok3, pok_small ha, pok_small hb, pok_small hc])]
  exact turnW_eq (by unfold within; omega) (by unfold within; omega) (by unfold within; omega)
theorem SqV_small {ax ay bx by_ : Int} (ha : (-2 ≤ ax ∧ ax ≤ 6) ∧ (-2 ≤ ay ∧ ay ≤ 6)) (hb : (-2 ≤ bx ∧ bx ≤ 6) ∧ (-2 ≤ by_ ∧ by_ ≤ 6)) : SqV ax ay bx by_ = sqZ ax ay bx by_ := by
  unfold SqV
  rw [if_pos (by simp [pok2, pok_small ha, pok_small hb])]
  exact sqW_eq (by unfold within; omega) (by unfold within; omega)
theorem BetV_small {ax ay bx by_ cx cy : Int} (ha : (-2 ≤ ax ∧ ax ≤ 6) ∧ (-2 ≤ ay ∧ ay ≤ 6)) (hb : (-2 ≤ bx ∧ bx ≤ 6) ∧ (-2 ≤ by_ ∧ by_ ≤ 6)) (hc : (-2 ≤ cx ∧ cx ≤ 6) ∧ (-2 ≤ cy ∧ cy ≤ 6)) : BetV ax ay bx by_ cx cy = (decide (turnZ bx by_ cx cy ax ay = 0) && (inB ax (min bx cx) (max bx cx) && inB ay (min by_ cy) (max by_ cy))) := by
  unfold BetV onW
  rw [turnW_eq (by unfold within; omega) (by unfold within; omega) (by unfold within; omega)]
  simp [pok3, pok_small ha, pok_small hb, pok_small hc]

theorem TurnOf_at (ax ay bx by_ cx cy v : Int) (w : World) (h : TurnV ax ay bx by_ cx cy = v) : Calls Try.prog 7 #[.agg #[.int .i64 ax, .int .i64 ay], .agg #[.int .i64 bx, .int .i64 by_], .agg #[.int .i64 cx, .int .i64 cy]] w fun e w' => e = .returned (.int .i64 v) ∧ Ext w w' := by
  subst h; exact TurnOf_any _ _ _ _ _ _ w
theorem SquareOf_at (ax ay bx by_ v : Int) (w : World) (h : SqV ax ay bx by_ = v) : Calls Try.prog 8 #[.agg #[.int .i64 ax, .int .i64 ay], .agg #[.int .i64 bx, .int .i64 by_]] w fun e w' => e = .returned (.int .i64 v) ∧ Ext w w' := by
  subst h; exact SquareOf_any _ _ _ _ w
theorem IsBetween_at (ax ay bx by_ cx cy : Int) (v : Bool) (w : World) (h : BetV ax ay bx by_ cx cy = v) : Calls Try.prog 9 #[.agg #[.int .i64 ax, .int .i64 ay], .agg #[.int .i64 bx, .int .i64 by_], .agg #[.int .i64 cx, .int .i64 cy]] w fun e w' => e = .returned (.bool v) ∧ Ext w w' := by
  subst h; exact IsBetween_any _ _ _ _ _ _ w
theorem IsNearer_at (ax ay bx by_ cx cy : Int) (v : Bool) (w : World) (h : nearW ax ay bx by_ cx cy = v) : Calls Try.prog 10 #[.agg #[.int .i64 ax, .int .i64 ay], .agg #[.int .i64 bx, .int .i64 by_], .agg #[.int .i64 cx, .int .i64 cy]] w fun e w' => e = .returned (.bool v) ∧ Ext w w' := by
  subst h; exact IsNearer_any _ _ _ _ _ _ w

/-- what the statement asks of three points -/
theorem turns_plain {x1 y1 x2 y2 x3 y3 : Int} (h1 : (-2 ≤ x1 ∧ x1 ≤ 6) ∧ (-2 ≤ y1 ∧ y1 ≤ 6)) (h2 : (-2 ≤ x2 ∧ x2 ≤ 6) ∧ (-2 ≤ y2 ∧ y2 ≤ 6)) (h3 : (-2 ≤ x3 ∧ x3 ≤ 6) ∧ (-2 ≤ y3 ∧ y3 ≤ 6)) :
    ∃ (t ab ac bc : Int) (m : Bool), TurnV x1 y1 x2 y2 x3 y3 = t ∧ TurnV x2 y2 x3 y3 x1 y1 = t ∧ TurnV x1 y1 x3 y3 x2 y2 = -t ∧ SqV x1 y1 x2 y2 = ab ∧ SqV x1 y1 x3 y3 = ac ∧ SqV x2 y2 x3 y3 = bc ∧ BetV x1 y1 x1 y1 x2 y2 = true ∧ BetV x3 y3 x1 y1 x2 y2 = m ∧ BetV x3 y3 x2 y2 x1 y1 = m ∧ nearW x1 y1 x2 y2 x3 y3 = decide (ab < ac) ∧
      (-128 ≤ t ∧ t ≤ 128) ∧ (0 ≤ ab ∧ ab ≤ 128) ∧ (0 ≤ ac ∧ ac ≤ 128) ∧ (0 ≤ bc ∧ bc ≤ 128) ∧ 4 * t * t + (ab + ac - bc) * (ab + ac - bc) = 4 * ab * ac ∧ (m = true → t = 0) := by
  have s : ∀ ax ay bx by_ : Int, (-2 ≤ ax ∧ ax ≤ 6) ∧ (-2 ≤ ay ∧ ay ≤ 6) → (-2 ≤ bx ∧ bx ≤ 6) ∧ (-2 ≤ by_ ∧ by_ ≤ 6) → 0 ≤ sqZ ax ay bx by_ ∧ sqZ ax ay bx by_ ≤ 128 := fun ax ay bx by_ ha hb => by
    unfold sqZ
    have a1 := sq_bd (t := ax - bx) (M := 8) (by omega)
    have a2 := sq_bd (t := ay - by_) (M := 8) (by omega)
    omega
  refine ⟨turnZ x1 y1 x2 y2 x3 y3, sqZ x1 y1 x2 y2, sqZ x1 y1 x3 y3, sqZ x2 y2 x3 y3, BetV x3 y3 x1 y1 x2 y2, TurnV_small h1 h2 h3, ?_, ?_, SqV_small h1 h2, SqV_small h1 h3, SqV_small h2 h3, ?_, rfl, ?_, ?_, ?_, s _ _ _ _ h1 h2, s _ _ _ _ h1 h3, s _ _ _ _ h2 h3, ?_, ?_⟩
  · rw [TurnV_small h2 h3 h1]; unfold turnZ; grind
  · rw [TurnV_small h1 h3 h2]; unfold turnZ; grind
  · rw [BetV_small h1 h1 h2]
    have e : turnZ x1 y1 x2 y2 x1 y1 = 0 := by unfold turnZ; grind
    simp [e, inB]
    omega
  · rw [BetV_small h3 h2 h1, BetV_small h3 h1 h2]
    have e : turnZ x2 y2 x1 y1 x3 y3 = - turnZ x1 y1 x2 y2 x3 y3 := by unfold turnZ; grind
    rw [e, Int.min_comm x2 x1, Int.min_comm y2 y1, Int.max_comm x2 x1, Int.max_comm y2 y1]
    congr 1
    simp
  · unfold nearW
    rw [sqW_eq (by unfold within; omega) (by unfold within; omega), sqW_eq (by unfold within; omega) (by unfold within; omega)]
    simp [pok3, pok_small h1, pok_small h2, pok_small h3]
  · unfold turnZ
    have a1 := mul_bd8 (a := x2 - x1) (b := y3 - y1) (by omega) (by omega)
    have a2 := mul_bd8 (a := y2 - y1) (b := x3 - x1) (by omega) (by omega)
    omega
  · unfold turnZ sqZ; grind
  · intro hm
    rw [BetV_small h3 h1 h2] at hm
    simp only [Bool.and_eq_true, decide_eq_true_eq] at hm
    exact hm.1


set_option maxRecDepth 100000 in
set_option maxHeartbeats 3200000 in
theorem turns_walk (B : Option Addr) (n c : Nat) (w : World) (hb : RB w B n) :
    Calls Try.prog 3 #[.slice B n c] w fun e w' => e = .returned (.bool true) ∧ Below w.heap.size w w' := by
  by_cases hbig : (1048576 : Int) < (n : Int)
  · go_enter Try.func3, Try.ntmps3
    go_wp2_with (go_at_call 5; refine (big_any _ _ _ _).mono ?_; rintro e w1 ⟨rfl, rfl⟩)
    go_ret
    exact ⟨rfl, Below.refl _ _⟩
  · have hn : n ≤ 1048576 := by omega
    go_enter Try.func3, Try.ntmps3
    go_wp2_with (go_at_call 5; refine (big_any _ _ _ _).mono ?_; rintro e w1 ⟨rfl, rfl⟩)
    refine (DrawPoints_any B n c w hb hn).mono ?_
    rintro e w1 ⟨x1, y1, x2, y2, x3, y3, h1, h2, h3, rfl, hx1⟩
    have HB : Hid (∀ w', Ext (((w1.alloc (.cells #[.int .i64 x1, .int .i64 y1] 25)).alloc (.cells #[.int .i64 x2, .int .i64 y2] 25)).alloc (.cells #[.int .i64 x3, .int .i64 y3] 25)) w' → w'.cell? ⟨w1.heap.size, 0, none⟩ = some (.int .i64 x1) ∧ w'.cell? ⟨w1.heap.size, 1, none⟩ = some (.int .i64 y1) ∧ w1.heap.size < w'.heap.size ∧ w'.cell? ⟨w1.heap.size + 1, 0, none⟩ = some (.int .i64 x2) ∧ w'.cell? ⟨w1.heap.size + 1, 1, none⟩ = some (.int .i64 y2) ∧ w1.heap.size + 1 < w'.heap.size ∧ w'.cell? ⟨w1.heap.size + 1 + 1, 0, none⟩ = some (.int .i64 x3) ∧ w'.cell? ⟨w1.heap.size + 1 + 1, 1, none⟩ = some (.int .i64 y3) ∧ w1.heap.size + 1 + 1 < w'.heap.size) := fun w' hx => by
      and_intros <;> (first | (have hz := hx.size; simp at hz; omega) | ((first | rw [hx.cells _ _ (by first | (simp; done) | (simp; omega))] | rw [hx.frozens _ _ (by first | (simp; done) | (simp; omega))]); (first | (simp [go_sem]; done) | (simp [go_sem, World.cell?_alloc_past]; done) | (simp [go_sem, World.frozen?]; done))))
    obtain ⟨t, ab, ac, bc, m, f1, f2, f3, f4, f5, f6, f7, f8, f9, f10, b1, b2, b3, b4, hid, hm⟩ := turns_plain h1 h2 h3
    clear h1 h2 h3
    obtain ⟨p1, hp1⟩ : ∃ p1, 4 * t * t = p1 := ⟨_, rfl⟩
    obtain ⟨p2, hp2⟩ : ∃ p2, (ab + ac - bc) * (ab + ac - bc) = p2 := ⟨_, rfl⟩
    obtain ⟨p3, hp3⟩ : ∃ p3, 4 * ab * ac = p3 := ⟨_, rfl⟩
    rw [hp1, hp2, hp3] at hid
    have q1 : 0 ≤ p1 ∧ p1 ≤ 65536 := by
      have := sq_bd b1
      have e : 4 * t * t = 4 * (t * t) := by grind
      omega
    have q2 : 0 ≤ p2 ∧ p2 ≤ 65536 := by
      have := sq_bd (t := ab + ac - bc) (M := 256) (by omega)
      omega
    have q3 : 0 ≤ p3 ∧ p3 ≤ 131072 := by omega
    have q4 : (p1 + p2 == p3) = true := by rw [beq_iff_eq]; exact hid
    have q5 : (ab + ac) = (ab + ac) := rfl
    have HID := hide hid
    clear hid q5
    have F1 := hide f1
    have F2 := hide f2
    have F3 := hide f3
    have F4 := hide f4
    have F5 := hide f5
    have F6 := hide f6
    have F7 := hide f7
    have F8 := hide f8
    have F9 := hide f9
    have F10 := hide f10
    clear f1 f2 f3 f4 f5 f6 f7 f8 f9 f10
    cases m
    · clear hm
      go_wp2_with (first
        | (go_at_call 7; refine (TurnOf_at _ _ _ _ _ _ _ _ (by first | exact F1.out | exact F2.out | exact F3.out)).mono ?_; rintro e wt ⟨rfl, hbt⟩; have hcc := HB.out wt (by (repeat (first | exact Ext.refl _ | assumption | apply Ext.alloc | apply Ext.drew | apply Ext.drewN | (refine Ext.trans ?_ (by assumption))))))
        | (go_at_call 8; refine (SquareOf_at _ _ _ _ _ _ (by first | exact F4.out | exact F5.out | exact F6.out)).mono ?_; rintro e wt ⟨rfl, hbt⟩; have hcc := HB.out wt (by (repeat (first | exact Ext.refl _ | assumption | apply Ext.alloc | apply Ext.drew | apply Ext.drewN | (refine Ext.trans ?_ (by assumption)))))))
      obtain ⟨wz, rfl⟩ : ∃ wz : World, wz = wt := ⟨_, rfl⟩
      simp only [List.append_eq, List.cons_append, List.nil_append]
      refine wp_flow (by kernel_rfl) (by kernel_rfl) (fun u => ⟨#[_, _, u 72, _, _, _, _, _, _, _, _, _, _, _, _, _, _, _, _, _, _, _, _, _, _, _, _, _, _, _, _, _, _, _, _, u 0, u 1, u 2, u 3, u 4, u 5, u 6, u 7, u 8, u 9, u 10, u 11, u 12, u 13, u 14, u 15, u 16, u 17, u 18, u 19, u 20, u 21, u 22, u 23, u 24, u 25, u 26, u 27, u 28, u 29, u 30, u 31, u 32, u 33, u 34, u 35, u 36, u 37, u 38, u 39, u 40, u 41, u 42, u 43, u 44, u 45, u 46, u 47, u 48, u 49, u 50, u 51, u 52, u 53, u 54, u 55, u 56, u 57, u 58, u 59, u 60, u 61, u 62, u 63, u 64, u 65, u 66, u 67, u 68, u 69, u 70, u 71], _⟩) (fun i => List.getD [_, _, _, _, _, _, _, _, _, _, _, _, _, _, _, _, _, _, _, _, _, _, _, _, _, _, _, _, _, _, _, _, _, _, _, _, _, _, _, _, _, _, _, _, _, _, _, _, _, _, _, _, _, _, _, _, _, _, _, _, _, _, _, _, _, _, _, _, _, _, _, _, _] i undef) [is (.agg #[.int .i64 x2, .int .i64 y2]), is (.agg #[.int .i64 x3, .int .i64 y3]), is (.agg #[.int .i64 x1, .int .i64 y1]), is (.int .i64 (t)), is (.int .i64 (t)), is (.bool true), is (.bool true), is (.agg #[.int .i64 x1, .int .i64 y1]), is (.agg #[.int .i64 x3, .int .i64 y3]), is (.agg #[.int .i64 x2, .int .i64 y2]), is (.int .i64 (-t)), is (.int .i64 (t)), is (.int .i64 (-t)), is (.bool true), is (.bool true), is (.bool true), is (.int .i64 (t)), is (.int .i64 (4 * t)), is (.int .i64 (t)), is (.int .i64 (p1)), is (.int .i64 (ab + ac - bc)), is (.int .i64 (ab + ac - bc)), is (.int .i64 (p2)), is (.int .i64 (p1 + p2)), is (.int .i64 (ab)), is (.int .i64 (4 * ab)), is (.int .i64 (ac)), is (.int .i64 (p3)), is (.bool true), is (.bool true), is (.bool true), is (.int .i64 (ab)), is (.bool true), is (.bool true), is (.bool true), is (.agg #[.int .i64 x1, .int .i64 y1]), is (.agg #[.int .i64 x1, .int .i64 y1]), is (.agg #[.int .i64 x2, .int .i64 y2]), is (.bool true), is (.bool true), is (.bool true), is (.agg #[.int .i64 x3, .int .i64 y3]), is (.agg #[.int .i64 x1, .int .i64 y1]), is (.agg #[.int .i64 x2, .int .i64 y2]), is (.bool false), is (.agg #[.int .i64 x3, .int .i64 y3]), is (.agg #[.int .i64 x2, .int .i64 y2]), is (.agg #[.int .i64 x1, .int .i64 y1]), is (.bool false), is (.bool true), is (.bool true), is (.bool true), is (.agg #[.int .i64 x3, .int .i64 y3]), is (.agg #[.int .i64 x1, .int .i64 y1]), is (.agg #[.int .i64 x2, .int .i64 y2]), is (.bool false), is (.bool true), is (.bool true), is (undef), is (undef), is (.bool true), is (.bool true), is (.bool true), is (.agg #[.int .i64 x1, .int .i64 y1]), is (.agg #[.int .i64 x2, .int .i64 y2]), is (.agg #[.int .i64 x3, .int .i64 y3]), is (.bool (decide (ab < ac))), is (.int .i64 (ab)), is (.int .i64 (ac)), is (.bool (decide (ab < ac))), is (.bool true), is (.bool true), is (.bool true)] (fun w' => w'.cell? ⟨w1.heap.size, 0, none⟩ = some (.int .i64 x1) ∧ w'.cell? ⟨w1.heap.size, 1, none⟩ = some (.int .i64 y1) ∧ w1.heap.size < w'.heap.size ∧ w'.cell? ⟨w1.heap.size + 1, 0, none⟩ = some (.int .i64 x2) ∧ w'.cell? ⟨w1.heap.size + 1, 1, none⟩ = some (.int .i64 y2) ∧ w1.heap.size + 1 < w'.heap.size ∧ w'.cell? ⟨w1.heap.size + 1 + 1, 0, none⟩ = some (.int .i64 x3) ∧ w'.cell? ⟨w1.heap.size + 1 + 1, 1, none⟩ = some (.int .i64 y3) ∧ w1.heap.size + 1 + 1 < w'.heap.size) _ rfl ?hC8 ?hs8 ?hV8 ?fin8
      case hC8 => exact fun w' hx => (by have hq : Ext _ w' := hx; have hf0 := HB.out w' (by (repeat (first | exact Ext.refl _ | assumption | apply Ext.alloc | apply Ext.drew | apply Ext.drewN | (refine Ext.trans ?_ (by assumption))))); and_intros <;> first | exact hf0 | exact hf0.1 | exact hf0.2.1 | exact hf0.2.2.1 | exact hf0.2.2.2.1 | exact hf0.2.2.2.2.1 | exact hf0.2.2.2.2.2.1 | exact hf0.2.2.2.2.2.2.1 | exact hf0.2.2.2.2.2.2.2.1 | exact hf0.2.2.2.2.2.2.2.2.1 | exact hf0.2.2.2.2.2.2.2.2.2.1 | exact hf0.2.2.2.2.2.2.2.2.2.2.1 | exact hf0.2.2.2.2.2.2.2.2.2.2.2.1 | exact hf0.2.2.2.2.2.2.2.2.2.2.2.2.1 | exact hf0.2.2.2.2.2.2.2.2.2.2.2.2.2.1 | exact hf0.2 | exact hf0.2.2 | exact hf0.2.2.2 | exact hf0.2.2.2.2 | exact hf0.2.2.2.2.2 | exact hf0.2.2.2.2.2.2 | exact hf0.2.2.2.2.2.2.2 | exact hf0.2.2.2.2.2.2.2.2 | exact hf0.2.2.2.2.2.2.2.2.2 | exact hf0.2.2.2.2.2.2.2.2.2.2 | exact hf0.2.2.2.2.2.2.2.2.2.2.2 | exact hf0.2.2.2.2.2.2.2.2.2.2.2.2 | exact hf0.2.2.2.2.2.2.2.2.2.2.2.2.2)
      case hs8 =>
        refine FSteps.cons (FStep.value (.agg #[.int .i64 x2, .int .i64 y2]) (fun _ _ _ => wanted_none rfl) (fun _ _ => rfl) (fun _ => rfl) (fun u w hW hC (hd : After _ _ u w) ρ hρ => ?_)) ?_
        · have r4 : ρ (.tmp 4) = .pointer (some ⟨w1.heap.size + 1, 0, none⟩) := (by subst hρ; rfl); clear hρ hd
          (go_simp; (try exact wrap_in _ (by omega) (by omega)))
        refine FSteps.cons (FStep.value (.agg #[.int .i64 x3, .int .i64 y3]) (fun _ _ _ => wanted_none rfl) (fun _ _ => rfl) (fun _ => rfl) (fun u w hW hC (hd : After _ _ u w) ρ hρ => ?_)) ?_
        · have r5 : ρ (.tmp 5) = .pointer (some ⟨w1.heap.size + 1 + 1, 0, none⟩) := (by subst hρ; rfl); clear hρ hd
          (go_simp; (try exact wrap_in _ (by omega) (by omega)))
        refine FSteps.cons (FStep.value (.agg #[.int .i64 x1, .int .i64 y1]) (fun _ _ _ => wanted_none rfl) (fun _ _ => rfl) (fun _ => rfl) (fun u w hW hC (hd : After _ _ u w) ρ hρ => ?_)) ?_
        · have r3 : ρ (.tmp 3) = .pointer (some ⟨w1.heap.size, 0, none⟩) := (by subst hρ; rfl); clear hρ hd
          (go_simp; (try exact wrap_in _ (by omega) (by omega)))
        refine FSteps.cons (FStep.call (.int .i64 (t)) _ #[.agg #[.int .i64 x2, .int .i64 y2], .agg #[.int .i64 x3, .int .i64 y3], .agg #[.int .i64 x1, .int .i64 y1]] (fun _ _ _ => wanted_none rfl) (fun _ _ => rfl) (fun _ => rfl) (fun u w hW hC (hd : After _ _ u w) ρ hρ => ?_) (fun w => TurnOf_at _ _ _ _ _ _ _ w F2.out)) ?_
        · have r35 : ρ (.tmp 35) = .agg #[.int .i64 x2, .int .i64 y2] := (by rw [hρ]; exact hd.get 0 _ rfl rfl); have r36 : ρ (.tmp 36) = .agg #[.int .i64 x3, .int .i64 y3] := (by rw [hρ]; exact hd.get 1 _ rfl rfl); have r37 : ρ (.tmp 37) = .agg #[.int .i64 x1, .int .i64 y1] := (by rw [hρ]; exact hd.get 2 _ rfl rfl); have rf : ∀ f, ρ (.func f) = .func (.func f) #[] #[] := (by subst hρ; exact fun _ => rfl); clear hρ hd
          (go_simp; (try exact wrap_in _ (by omega) (by omega)))
        refine FSteps.cons (FStep.value (.int .i64 (t)) (fun _ _ _ => wanted_none rfl) (fun _ _ => rfl) (fun _ => rfl) (fun u w hW hC (hd : After _ _ u w) ρ hρ => ?_)) ?_
        · have r6 : ρ (.tmp 6) = .int .i64 (t) := (by subst hρ; rfl); clear hρ hd
          (go_simp; (try exact wrap_in _ (by omega) (by omega)))
        refine FSteps.cons (FStep.value (.bool true) (fun _ _ _ => wanted_none rfl) (fun _ _ => rfl) (fun _ => rfl) (fun u w hW hC (hd : After _ _ u w) ρ hρ => ?_)) ?_
        · have r38 : ρ (.tmp 38) = .int .i64 (t) := (by rw [hρ]; exact hd.get 0 _ rfl rfl); have r39 : ρ (.tmp 39) = .int .i64 (t) := (by rw [hρ]; exact hd.get 1 _ rfl rfl); clear hρ hd
          (go_simp; (try exact wrap_in _ (by omega) (by omega)))
        refine FSteps.cons (FStep.value (.bool true) (fun _ _ _ => wanted_none rfl) (fun _ _ => rfl) (fun _ => rfl) (fun u w hW hC (hd : After _ _ u w) ρ hρ => ?_)) ?_
        · have r40 : ρ (.tmp 40) = .bool true := (by rw [hρ]; exact hd.get 0 _ rfl rfl); clear hρ hd
          (go_simp; (try exact wrap_in _ (by omega) (by omega)))
        refine FSteps.cons (FStep.value (.agg #[.int .i64 x1, .int .i64 y1]) (fun u w hd => wanted_on 6 41 true rfl rfl (congrArg some (hd.get 0 _ rfl rfl))) (fun _ _ => rfl) (fun _ => rfl) (fun u w hW hC (hd : After _ _ u w) ρ hρ => ?_)) ?_
        · have r3 : ρ (.tmp 3) = .pointer (some ⟨w1.heap.size, 0, none⟩) := (by subst hρ; rfl); clear hρ hd
          (go_simp; (try exact wrap_in _ (by omega) (by omega)))
        refine FSteps.cons (FStep.value (.agg #[.int .i64 x3, .int .i64 y3]) (fun u w hd => wanted_on 6 41 true rfl rfl (congrArg some (hd.get 0 _ rfl rfl))) (fun _ _ => rfl) (fun _ => rfl) (fun u w hW hC (hd : After _ _ u w) ρ hρ => ?_)) ?_
        · have r5 : ρ (.tmp 5) = .pointer (some ⟨w1.heap.size + 1 + 1, 0, none⟩) := (by subst hρ; rfl); clear hρ hd
          (go_simp; (try exact wrap_in _ (by omega) (by omega)))
        refine FSteps.cons (FStep.value (.agg #[.int .i64 x2, .int .i64 y2]) (fun u w hd => wanted_on 6 41 true rfl rfl (congrArg some (hd.get 0 _ rfl rfl))) (fun _ _ => rfl) (fun _ => rfl) (fun u w hW hC (hd : After _ _ u w) ρ hρ => ?_)) ?_
        · have r4 : ρ (.tmp 4) = .pointer (some ⟨w1.heap.size + 1, 0, none⟩) := (by subst hρ; rfl); clear hρ hd
          (go_simp; (try exact wrap_in _ (by omega) (by omega)))
        refine FSteps.cons (FStep.call (.int .i64 (-t)) _ #[.agg #[.int .i64 x1, .int .i64 y1], .agg #[.int .i64 x3, .int .i64 y3], .agg #[.int .i64 x2, .int .i64 y2]] (fun u w hd => wanted_on 6 41 true rfl rfl (congrArg some (hd.get 3 _ rfl rfl))) (fun _ _ => rfl) (fun _ => rfl) (fun u w hW hC (hd : After _ _ u w) ρ hρ => ?_) (fun w => TurnOf_at _ _ _ _ _ _ _ w F3.out)) ?_
        · have r42 : ρ (.tmp 42) = .agg #[.int .i64 x1, .int .i64 y1] := (by rw [hρ]; exact hd.get 0 _ rfl rfl); have r43 : ρ (.tmp 43) = .agg #[.int .i64 x3, .int .i64 y3] := (by rw [hρ]; exact hd.get 1 _ rfl rfl); have r44 : ρ (.tmp 44) = .agg #[.int .i64 x2, .int .i64 y2] := (by rw [hρ]; exact hd.get 2 _ rfl rfl); have rf : ∀ f, ρ (.func f) = .func (.func f) #[] #[] := (by subst hρ; exact fun _ => rfl); clear hρ hd
          (go_simp; (try exact wrap_in _ (by omega) (by omega)))
        refine FSteps.cons (FStep.value (.int .i64 (t)) (fun u w hd => wanted_on 6 41 true rfl rfl (congrArg some (hd.get 0 _ rfl rfl))) (fun _ _ => rfl) (fun _ => rfl) (fun u w hW hC (hd : After _ _ u w) ρ hρ => ?_)) ?_
        · have r6 : ρ (.tmp 6) = .int .i64 (t) := (by subst hρ; rfl); clear hρ hd
          (go_simp; (try exact wrap_in _ (by omega) (by omega)))
        refine FSteps.cons (FStep.value (.int .i64 (-t)) (fun u w hd => wanted_on 6 41 true rfl rfl (congrArg some (hd.get 1 _ rfl rfl))) (fun _ _ => rfl) (fun _ => rfl) (fun u w hW hC (hd : After _ _ u w) ρ hρ => ?_)) ?_
        · have r46 : ρ (.tmp 46) = .int .i64 (t) := (by rw [hρ]; exact hd.get 0 _ rfl rfl); clear hρ hd
          (go_simp; (try exact wrap_in _ (by omega) (by omega)))
        refine FSteps.cons (FStep.value (.bool true) (fun u w hd => wanted_on 6 41 true rfl rfl (congrArg some (hd.get 2 _ rfl rfl))) (fun _ _ => rfl) (fun _ => rfl) (fun u w hW hC (hd : After _ _ u w) ρ hρ => ?_)) ?_
        · have r45 : ρ (.tmp 45) = .int .i64 (-t) := (by rw [hρ]; exact hd.get 0 _ rfl rfl); have r47 : ρ (.tmp 47) = .int .i64 (-t) := (by rw [hρ]; exact hd.get 1 _ rfl rfl); clear hρ hd
          (go_simp; (try exact wrap_in _ (by omega) (by omega)))
        refine FSteps.cons (FStep.value (.bool true) (fun _ _ _ => wanted_none rfl) (fun _ _ => rfl) (fun _ => rfl) (fun u w hW hC (hd : After _ _ u w) ρ hρ => ?_)) ?_
        · have r41 : ρ (.tmp 41) = .bool true := (by rw [hρ]; exact hd.get 0 _ rfl rfl); have r48 : ρ (.tmp 48) = .bool true := (by rw [hρ]; exact hd.get 1 _ rfl rfl); have rc : ∀ v, ρ (.const v) = v := (by subst hρ; exact fun _ => rfl); clear hρ hd
          (go_simp; (try exact wrap_in _ (by omega) (by omega)))
        refine FSteps.cons (FStep.value (.bool true) (fun _ _ _ => wanted_none rfl) (fun _ _ => rfl) (fun _ => rfl) (fun u w hW hC (hd : After _ _ u w) ρ hρ => ?_)) ?_
        · have r49 : ρ (.tmp 49) = .bool true := (by rw [hρ]; exact hd.get 0 _ rfl rfl); clear hρ hd
          (go_simp; (try exact wrap_in _ (by omega) (by omega)))
        refine FSteps.cons (FStep.value (.int .i64 (t)) (fun u w hd => wanted_on 15 50 true rfl rfl (congrArg some (hd.get 0 _ rfl rfl))) (fun _ _ => rfl) (fun _ => rfl) (fun u w hW hC (hd : After _ _ u w) ρ hρ => ?_)) ?_
        · have r6 : ρ (.tmp 6) = .int .i64 (t) := (by subst hρ; rfl); clear hρ hd
          (go_simp; (try exact wrap_in _ (by omega) (by omega)))
        refine FSteps.cons (FStep.value (.int .i64 (4 * t)) (fun u w hd => wanted_on 15 50 true rfl rfl (congrArg some (hd.get 1 _ rfl rfl))) (fun _ _ => rfl) (fun _ => rfl) (fun u w hW hC (hd : After _ _ u w) ρ hρ => ?_)) ?_
        · have r51 : ρ (.tmp 51) = .int .i64 (t) := (by rw [hρ]; exact hd.get 0 _ rfl rfl); have rc : ∀ v, ρ (.const v) = v := (by subst hρ; exact fun _ => rfl); clear hρ hd
          (go_simp; (try exact wrap_in _ (by omega) (by omega)))
        refine FSteps.cons (FStep.value (.int .i64 (t)) (fun u w hd => wanted_on 15 50 true rfl rfl (congrArg some (hd.get 0 _ rfl rfl))) (fun _ _ => rfl) (fun _ => rfl) (fun u w hW hC (hd : After _ _ u w) ρ hρ => ?_)) ?_
        · have r6 : ρ (.tmp 6) = .int .i64 (t) := (by subst hρ; rfl); clear hρ hd
          (go_simp; (try exact wrap_in _ (by omega) (by omega)))
        refine FSteps.cons (FStep.value (.int .i64 (p1)) (fun u w hd => wanted_on 15 50 true rfl rfl (congrArg some (hd.get 2 _ rfl rfl))) (fun _ _ => rfl) (fun _ => rfl) (fun u w hW hC (hd : After _ _ u w) ρ hρ => ?_)) ?_
        · have r52 : ρ (.tmp 52) = .int .i64 (4 * t) := (by rw [hρ]; exact hd.get 0 _ rfl rfl); have r53 : ρ (.tmp 53) = .int .i64 (t) := (by rw [hρ]; exact hd.get 1 _ rfl rfl); clear hρ hd
          (go_simp; (try exact wrap_in _ (by omega) (by omega)))
        refine FSteps.cons (FStep.value (.int .i64 (ab + ac - bc)) (fun u w hd => wanted_on 15 50 true rfl rfl (congrArg some (hd.get 0 _ rfl rfl))) (fun _ _ => rfl) (fun _ => rfl) (fun u w hW hC (hd : After _ _ u w) ρ hρ => ?_)) ?_
        · have r9 : ρ (.tmp 9) = .int .i64 (ab + ac - bc) := (by subst hρ; rfl); clear hρ hd
          (go_simp; (try exact wrap_in _ (by omega) (by omega)))
        refine FSteps.cons (FStep.value (.int .i64 (ab + ac - bc)) (fun u w hd => wanted_on 15 50 true rfl rfl (congrArg some (hd.get 0 _ rfl rfl))) (fun _ _ => rfl) (fun _ => rfl) (fun u w hW hC (hd : After _ _ u w) ρ hρ => ?_)) ?_
        · have r9 : ρ (.tmp 9) = .int .i64 (ab + ac - bc) := (by subst hρ; rfl); clear hρ hd
          (go_simp; (try exact wrap_in _ (by omega) (by omega)))
        refine FSteps.cons (FStep.value (.int .i64 (p2)) (fun u w hd => wanted_on 15 50 true rfl rfl (congrArg some (hd.get 2 _ rfl rfl))) (fun _ _ => rfl) (fun _ => rfl) (fun u w hW hC (hd : After _ _ u w) ρ hρ => ?_)) ?_
        · have r55 : ρ (.tmp 55) = .int .i64 (ab + ac - bc) := (by rw [hρ]; exact hd.get 0 _ rfl rfl); have r56 : ρ (.tmp 56) = .int .i64 (ab + ac - bc) := (by rw [hρ]; exact hd.get 1 _ rfl rfl); clear hρ hd
          (go_simp; (try exact wrap_in _ (by omega) (by omega)))
        refine FSteps.cons (FStep.value (.int .i64 (p1 + p2)) (fun u w hd => wanted_on 15 50 true rfl rfl (congrArg some (hd.get 2 _ rfl rfl))) (fun _ _ => rfl) (fun _ => rfl) (fun u w hW hC (hd : After _ _ u w) ρ hρ => ?_)) ?_
        · have r54 : ρ (.tmp 54) = .int .i64 (p1) := (by rw [hρ]; exact hd.get 0 _ rfl rfl); have r57 : ρ (.tmp 57) = .int .i64 (p2) := (by rw [hρ]; exact hd.get 1 _ rfl rfl); clear hρ hd
          (go_simp; (try exact wrap_in _ (by omega) (by omega)))
        refine FSteps.cons (FStep.value (.int .i64 (ab)) (fun u w hd => wanted_on 15 50 true rfl rfl (congrArg some (hd.get 0 _ rfl rfl))) (fun _ _ => rfl) (fun _ => rfl) (fun u w hW hC (hd : After _ _ u w) ρ hρ => ?_)) ?_
        · have r7 : ρ (.tmp 7) = .int .i64 (ab) := (by subst hρ; rfl); clear hρ hd
          (go_simp; (try exact wrap_in _ (by omega) (by omega)))
        refine FSteps.cons (FStep.value (.int .i64 (4 * ab)) (fun u w hd => wanted_on 15 50 true rfl rfl (congrArg some (hd.get 1 _ rfl rfl))) (fun _ _ => rfl) (fun _ => rfl) (fun u w hW hC (hd : After _ _ u w) ρ hρ => ?_)) ?_
        · have r59 : ρ (.tmp 59) = .int .i64 (ab) := (by rw [hρ]; exact hd.get 0 _ rfl rfl); have rc : ∀ v, ρ (.const v) = v := (by subst hρ; exact fun _ => rfl); clear hρ hd
          (go_simp; (try exact wrap_in _ (by omega) (by omega)))
        refine FSteps.cons (FStep.value (.int .i64 (ac)) (fun u w hd => wanted_on 15 50 true rfl rfl (congrArg some (hd.get 0 _ rfl rfl))) (fun _ _ => rfl) (fun _ => rfl) (fun u w hW hC (hd : After _ _ u w) ρ hρ => ?_)) ?_
        · have r8 : ρ (.tmp 8) = .int .i64 (ac) := (by subst hρ; rfl); clear hρ hd
          (go_simp; (try exact wrap_in _ (by omega) (by omega)))
        refine FSteps.cons (FStep.value (.int .i64 (p3)) (fun u w hd => wanted_on 15 50 true rfl rfl (congrArg some (hd.get 2 _ rfl rfl))) (fun _ _ => rfl) (fun _ => rfl) (fun u w hW hC (hd : After _ _ u w) ρ hρ => ?_)) ?_
        · have r60 : ρ (.tmp 60) = .int .i64 (4 * ab) := (by rw [hρ]; exact hd.get 0 _ rfl rfl); have r61 : ρ (.tmp 61) = .int .i64 (ac) := (by rw [hρ]; exact hd.get 1 _ rfl rfl); clear hρ hd
          (go_simp; (try exact wrap_in _ (by omega) (by omega)))
        refine FSteps.cons (FStep.value (.bool true) (fun u w hd => wanted_on 15 50 true rfl rfl (congrArg some (hd.get 2 _ rfl rfl))) (fun _ _ => rfl) (fun _ => rfl) (fun u w hW hC (hd : After _ _ u w) ρ hρ => ?_)) ?_
        · have r58 : ρ (.tmp 58) = .int .i64 (p1 + p2) := (by rw [hρ]; exact hd.get 0 _ rfl rfl); have r62 : ρ (.tmp 62) = .int .i64 (p3) := (by rw [hρ]; exact hd.get 1 _ rfl rfl); clear hρ hd
          (go_simp; (try exact wrap_in _ (by omega) (by omega)))
        refine FSteps.cons (FStep.value (.bool true) (fun _ _ _ => wanted_none rfl) (fun _ _ => rfl) (fun _ => rfl) (fun u w hW hC (hd : After _ _ u w) ρ hρ => ?_)) ?_
        · have r50 : ρ (.tmp 50) = .bool true := (by rw [hρ]; exact hd.get 0 _ rfl rfl); have r63 : ρ (.tmp 63) = .bool true := (by rw [hρ]; exact hd.get 1 _ rfl rfl); have rc : ∀ v, ρ (.const v) = v := (by subst hρ; exact fun _ => rfl); clear hρ hd
          (go_simp; (try exact wrap_in _ (by omega) (by omega)))
        refine FSteps.cons (FStep.value (.bool true) (fun _ _ _ => wanted_none rfl) (fun _ _ => rfl) (fun _ => rfl) (fun u w hW hC (hd : After _ _ u w) ρ hρ => ?_)) ?_
        · have r64 : ρ (.tmp 64) = .bool true := (by rw [hρ]; exact hd.get 0 _ rfl rfl); clear hρ hd
          (go_simp; (try exact wrap_in _ (by omega) (by omega)))
        refine FSteps.cons (FStep.value (.int .i64 (ab)) (fun u w hd => wanted_on 30 65 true rfl rfl (congrArg some (hd.get 0 _ rfl rfl))) (fun _ _ => rfl) (fun _ => rfl) (fun u w hW hC (hd : After _ _ u w) ρ hρ => ?_)) ?_
        · have r7 : ρ (.tmp 7) = .int .i64 (ab) := (by subst hρ; rfl); clear hρ hd
          (go_simp; (try exact wrap_in _ (by omega) (by omega)))
        refine FSteps.cons (FStep.value (.bool true) (fun u w hd => wanted_on 30 65 true rfl rfl (congrArg some (hd.get 1 _ rfl rfl))) (fun _ _ => rfl) (fun _ => rfl) (fun u w hW hC (hd : After _ _ u w) ρ hρ => ?_)) ?_
        · have r66 : ρ (.tmp 66) = .int .i64 (ab) := (by rw [hρ]; exact hd.get 0 _ rfl rfl); have rc : ∀ v, ρ (.const v) = v := (by subst hρ; exact fun _ => rfl); clear hρ hd
          (go_simp; (try exact wrap_in _ (by omega) (by omega)))
        refine FSteps.cons (FStep.value (.bool true) (fun _ _ _ => wanted_none rfl) (fun _ _ => rfl) (fun _ => rfl) (fun u w hW hC (hd : After _ _ u w) ρ hρ => ?_)) ?_
        · have r65 : ρ (.tmp 65) = .bool true := (by rw [hρ]; exact hd.get 0 _ rfl rfl); have r67 : ρ (.tmp 67) = .bool true := (by rw [hρ]; exact hd.get 1 _ rfl rfl); have rc : ∀ v, ρ (.const v) = v := (by subst hρ; exact fun _ => rfl); clear hρ hd
          (go_simp; (try exact wrap_in _ (by omega) (by omega)))
        refine FSteps.cons (FStep.value (.bool true) (fun _ _ _ => wanted_none rfl) (fun _ _ => rfl) (fun _ => rfl) (fun u w hW hC (hd : After _ _ u w) ρ hρ => ?_)) ?_
        · have r68 : ρ (.tmp 68) = .bool true := (by rw [hρ]; exact hd.get 0 _ rfl rfl); clear hρ hd
          (go_simp; (try exact wrap_in _ (by omega) (by omega)))
        refine FSteps.cons (FStep.value (.agg #[.int .i64 x1, .int .i64 y1]) (fun u w hd => wanted_on 34 69 true rfl rfl (congrArg some (hd.get 0 _ rfl rfl))) (fun _ _ => rfl) (fun _ => rfl) (fun u w hW hC (hd : After _ _ u w) ρ hρ => ?_)) ?_
        · have r3 : ρ (.tmp 3) = .pointer (some ⟨w1.heap.size, 0, none⟩) := (by subst hρ; rfl); clear hρ hd
          (go_simp; (try exact wrap_in _ (by omega) (by omega)))
        refine FSteps.cons (FStep.value (.agg #[.int .i64 x1, .int .i64 y1]) (fun u w hd => wanted_on 34 69 true rfl rfl (congrArg some (hd.get 0 _ rfl rfl))) (fun _ _ => rfl) (fun _ => rfl) (fun u w hW hC (hd : After _ _ u w) ρ hρ => ?_)) ?_
        · have r3 : ρ (.tmp 3) = .pointer (some ⟨w1.heap.size, 0, none⟩) := (by subst hρ; rfl); clear hρ hd
          (go_simp; (try exact wrap_in _ (by omega) (by omega)))
        refine FSteps.cons (FStep.value (.agg #[.int .i64 x2, .int .i64 y2]) (fun u w hd => wanted_on 34 69 true rfl rfl (congrArg some (hd.get 0 _ rfl rfl))) (fun _ _ => rfl) (fun _ => rfl) (fun u w hW hC (hd : After _ _ u w) ρ hρ => ?_)) ?_
        · have r4 : ρ (.tmp 4) = .pointer (some ⟨w1.heap.size + 1, 0, none⟩) := (by subst hρ; rfl); clear hρ hd
          (go_simp; (try exact wrap_in _ (by omega) (by omega)))
        refine FSteps.cons (FStep.call (.bool true) _ #[.agg #[.int .i64 x1, .int .i64 y1], .agg #[.int .i64 x1, .int .i64 y1], .agg #[.int .i64 x2, .int .i64 y2]] (fun u w hd => wanted_on 34 69 true rfl rfl (congrArg some (hd.get 3 _ rfl rfl))) (fun _ _ => rfl) (fun _ => rfl) (fun u w hW hC (hd : After _ _ u w) ρ hρ => ?_) (fun w => IsBetween_at _ _ _ _ _ _ _ w F7.out)) ?_
        · have r70 : ρ (.tmp 70) = .agg #[.int .i64 x1, .int .i64 y1] := (by rw [hρ]; exact hd.get 0 _ rfl rfl); have r71 : ρ (.tmp 71) = .agg #[.int .i64 x1, .int .i64 y1] := (by rw [hρ]; exact hd.get 1 _ rfl rfl); have r72 : ρ (.tmp 72) = .agg #[.int .i64 x2, .int .i64 y2] := (by rw [hρ]; exact hd.get 2 _ rfl rfl); have rf : ∀ f, ρ (.func f) = .func (.func f) #[] #[] := (by subst hρ; exact fun _ => rfl); clear hρ hd
          (go_simp; (try exact wrap_in _ (by omega) (by omega)))
        refine FSteps.cons (FStep.value (.bool true) (fun _ _ _ => wanted_none rfl) (fun _ _ => rfl) (fun _ => rfl) (fun u w hW hC (hd : After _ _ u w) ρ hρ => ?_)) ?_
        · have r69 : ρ (.tmp 69) = .bool true := (by rw [hρ]; exact hd.get 0 _ rfl rfl); have r73 : ρ (.tmp 73) = .bool true := (by rw [hρ]; exact hd.get 1 _ rfl rfl); have rc : ∀ v, ρ (.const v) = v := (by subst hρ; exact fun _ => rfl); clear hρ hd
          (go_simp; (try exact wrap_in _ (by omega) (by omega)))
        refine FSteps.cons (FStep.value (.bool true) (fun _ _ _ => wanted_none rfl) (fun _ _ => rfl) (fun _ => rfl) (fun u w hW hC (hd : After _ _ u w) ρ hρ => ?_)) ?_
        · have r74 : ρ (.tmp 74) = .bool true := (by rw [hρ]; exact hd.get 0 _ rfl rfl); clear hρ hd
          (go_simp; (try exact wrap_in _ (by omega) (by omega)))
        refine FSteps.cons (FStep.value (.agg #[.int .i64 x3, .int .i64 y3]) (fun u w hd => wanted_on 40 75 true rfl rfl (congrArg some (hd.get 0 _ rfl rfl))) (fun _ _ => rfl) (fun _ => rfl) (fun u w hW hC (hd : After _ _ u w) ρ hρ => ?_)) ?_
        · have r5 : ρ (.tmp 5) = .pointer (some ⟨w1.heap.size + 1 + 1, 0, none⟩) := (by subst hρ; rfl); clear hρ hd
          (go_simp; (try exact wrap_in _ (by omega) (by omega)))
        refine FSteps.cons (FStep.value (.agg #[.int .i64 x1, .int .i64 y1]) (fun u w hd => wanted_on 40 75 true rfl rfl (congrArg some (hd.get 0 _ rfl rfl))) (fun _ _ => rfl) (fun _ => rfl) (fun u w hW hC (hd : After _ _ u w) ρ hρ => ?_)) ?_
        · have r3 : ρ (.tmp 3) = .pointer (some ⟨w1.heap.size, 0, none⟩) := (by subst hρ; rfl); clear hρ hd
          (go_simp; (try exact wrap_in _ (by omega) (by omega)))
        refine FSteps.cons (FStep.value (.agg #[.int .i64 x2, .int .i64 y2]) (fun u w hd => wanted_on 40 75 true rfl rfl (congrArg some (hd.get 0 _ rfl rfl))) (fun _ _ => rfl) (fun _ => rfl) (fun u w hW hC (hd : After _ _ u w) ρ hρ => ?_)) ?_
        · have r4 : ρ (.tmp 4) = .pointer (some ⟨w1.heap.size + 1, 0, none⟩) := (by subst hρ; rfl); clear hρ hd
          (go_simp; (try exact wrap_in _ (by omega) (by omega)))
        refine FSteps.cons (FStep.call (.bool false) _ #[.agg #[.int .i64 x3, .int .i64 y3], .agg #[.int .i64 x1, .int .i64 y1], .agg #[.int .i64 x2, .int .i64 y2]] (fun u w hd => wanted_on 40 75 true rfl rfl (congrArg some (hd.get 3 _ rfl rfl))) (fun _ _ => rfl) (fun _ => rfl) (fun u w hW hC (hd : After _ _ u w) ρ hρ => ?_) (fun w => IsBetween_at _ _ _ _ _ _ _ w F8.out)) ?_
        · have r76 : ρ (.tmp 76) = .agg #[.int .i64 x3, .int .i64 y3] := (by rw [hρ]; exact hd.get 0 _ rfl rfl); have r77 : ρ (.tmp 77) = .agg #[.int .i64 x1, .int .i64 y1] := (by rw [hρ]; exact hd.get 1 _ rfl rfl); have r78 : ρ (.tmp 78) = .agg #[.int .i64 x2, .int .i64 y2] := (by rw [hρ]; exact hd.get 2 _ rfl rfl); have rf : ∀ f, ρ (.func f) = .func (.func f) #[] #[] := (by subst hρ; exact fun _ => rfl); clear hρ hd
          (go_simp; (try exact wrap_in _ (by omega) (by omega)))
        refine FSteps.cons (FStep.value (.agg #[.int .i64 x3, .int .i64 y3]) (fun u w hd => wanted_on 40 75 true rfl rfl (congrArg some (hd.get 0 _ rfl rfl))) (fun _ _ => rfl) (fun _ => rfl) (fun u w hW hC (hd : After _ _ u w) ρ hρ => ?_)) ?_
        · have r5 : ρ (.tmp 5) = .pointer (some ⟨w1.heap.size + 1 + 1, 0, none⟩) := (by subst hρ; rfl); clear hρ hd
          (go_simp; (try exact wrap_in _ (by omega) (by omega)))
        refine FSteps.cons (FStep.value (.agg #[.int .i64 x2, .int .i64 y2]) (fun u w hd => wanted_on 40 75 true rfl rfl (congrArg some (hd.get 0 _ rfl rfl))) (fun _ _ => rfl) (fun _ => rfl) (fun u w hW hC (hd : After _ _ u w) ρ hρ => ?_)) ?_
        · have r4 : ρ (.tmp 4) = .pointer (some ⟨w1.heap.size + 1, 0, none⟩) := (by subst hρ; rfl); clear hρ hd
          (go_simp; (try exact wrap_in _ (by omega) (by omega)))
        refine FSteps.cons (FStep.value (.agg #[.int .i64 x1, .int .i64 y1]) (fun u w hd => wanted_on 40 75 true rfl rfl (congrArg some (hd.get 0 _ rfl rfl))) (fun _ _ => rfl) (fun _ => rfl) (fun u w hW hC (hd : After _ _ u w) ρ hρ => ?_)) ?_
        · have r3 : ρ (.tmp 3) = .pointer (some ⟨w1.heap.size, 0, none⟩) := (by subst hρ; rfl); clear hρ hd
          (go_simp; (try exact wrap_in _ (by omega) (by omega)))
        refine FSteps.cons (FStep.call (.bool false) _ #[.agg #[.int .i64 x3, .int .i64 y3], .agg #[.int .i64 x2, .int .i64 y2], .agg #[.int .i64 x1, .int .i64 y1]] (fun u w hd => wanted_on 40 75 true rfl rfl (congrArg some (hd.get 4 _ rfl rfl))) (fun _ _ => rfl) (fun _ => rfl) (fun u w hW hC (hd : After _ _ u w) ρ hρ => ?_) (fun w => IsBetween_at _ _ _ _ _ _ _ w F9.out)) ?_
        · have r80 : ρ (.tmp 80) = .agg #[.int .i64 x3, .int .i64 y3] := (by rw [hρ]; exact hd.get 0 _ rfl rfl); have r81 : ρ (.tmp 81) = .agg #[.int .i64 x2, .int .i64 y2] := (by rw [hρ]; exact hd.get 1 _ rfl rfl); have r82 : ρ (.tmp 82) = .agg #[.int .i64 x1, .int .i64 y1] := (by rw [hρ]; exact hd.get 2 _ rfl rfl); have rf : ∀ f, ρ (.func f) = .func (.func f) #[] #[] := (by subst hρ; exact fun _ => rfl); clear hρ hd
          (go_simp; (try exact wrap_in _ (by omega) (by omega)))
        refine FSteps.cons (FStep.value (.bool true) (fun u w hd => wanted_on 40 75 true rfl rfl (congrArg some (hd.get 2 _ rfl rfl))) (fun _ _ => rfl) (fun _ => rfl) (fun u w hW hC (hd : After _ _ u w) ρ hρ => ?_)) ?_
        · have r79 : ρ (.tmp 79) = .bool false := (by rw [hρ]; exact hd.get 0 _ rfl rfl); have r83 : ρ (.tmp 83) = .bool false := (by rw [hρ]; exact hd.get 1 _ rfl rfl); clear hρ hd
          (go_simp; (try exact wrap_in _ (by omega) (by omega)))
        refine FSteps.cons (FStep.value (.bool true) (fun _ _ _ => wanted_none rfl) (fun _ _ => rfl) (fun _ => rfl) (fun u w hW hC (hd : After _ _ u w) ρ hρ => ?_)) ?_
        · have r75 : ρ (.tmp 75) = .bool true := (by rw [hρ]; exact hd.get 0 _ rfl rfl); have r84 : ρ (.tmp 84) = .bool true := (by rw [hρ]; exact hd.get 1 _ rfl rfl); have rc : ∀ v, ρ (.const v) = v := (by subst hρ; exact fun _ => rfl); clear hρ hd
          (go_simp; (try exact wrap_in _ (by omega) (by omega)))
        refine FSteps.cons (FStep.value (.bool true) (fun _ _ _ => wanted_none rfl) (fun _ _ => rfl) (fun _ => rfl) (fun u w hW hC (hd : After _ _ u w) ρ hρ => ?_)) ?_
        · have r85 : ρ (.tmp 85) = .bool true := (by rw [hρ]; exact hd.get 0 _ rfl rfl); clear hρ hd
          (go_simp; (try exact wrap_in _ (by omega) (by omega)))
        refine FSteps.cons (FStep.value (.agg #[.int .i64 x3, .int .i64 y3]) (fun u w hd => wanted_on 51 86 true rfl rfl (congrArg some (hd.get 0 _ rfl rfl))) (fun _ _ => rfl) (fun _ => rfl) (fun u w hW hC (hd : After _ _ u w) ρ hρ => ?_)) ?_
        · have r5 : ρ (.tmp 5) = .pointer (some ⟨w1.heap.size + 1 + 1, 0, none⟩) := (by subst hρ; rfl); clear hρ hd
          (go_simp; (try exact wrap_in _ (by omega) (by omega)))
        refine FSteps.cons (FStep.value (.agg #[.int .i64 x1, .int .i64 y1]) (fun u w hd => wanted_on 51 86 true rfl rfl (congrArg some (hd.get 0 _ rfl rfl))) (fun _ _ => rfl) (fun _ => rfl) (fun u w hW hC (hd : After _ _ u w) ρ hρ => ?_)) ?_
        · have r3 : ρ (.tmp 3) = .pointer (some ⟨w1.heap.size, 0, none⟩) := (by subst hρ; rfl); clear hρ hd
          (go_simp; (try exact wrap_in _ (by omega) (by omega)))
        refine FSteps.cons (FStep.value (.agg #[.int .i64 x2, .int .i64 y2]) (fun u w hd => wanted_on 51 86 true rfl rfl (congrArg some (hd.get 0 _ rfl rfl))) (fun _ _ => rfl) (fun _ => rfl) (fun u w hW hC (hd : After _ _ u w) ρ hρ => ?_)) ?_
        · have r4 : ρ (.tmp 4) = .pointer (some ⟨w1.heap.size + 1, 0, none⟩) := (by subst hρ; rfl); clear hρ hd
          (go_simp; (try exact wrap_in _ (by omega) (by omega)))
        refine FSteps.cons (FStep.call (.bool false) _ #[.agg #[.int .i64 x3, .int .i64 y3], .agg #[.int .i64 x1, .int .i64 y1], .agg #[.int .i64 x2, .int .i64 y2]] (fun u w hd => wanted_on 51 86 true rfl rfl (congrArg some (hd.get 3 _ rfl rfl))) (fun _ _ => rfl) (fun _ => rfl) (fun u w hW hC (hd : After _ _ u w) ρ hρ => ?_) (fun w => IsBetween_at _ _ _ _ _ _ _ w F8.out)) ?_
        · have r87 : ρ (.tmp 87) = .agg #[.int .i64 x3, .int .i64 y3] := (by rw [hρ]; exact hd.get 0 _ rfl rfl); have r88 : ρ (.tmp 88) = .agg #[.int .i64 x1, .int .i64 y1] := (by rw [hρ]; exact hd.get 1 _ rfl rfl); have r89 : ρ (.tmp 89) = .agg #[.int .i64 x2, .int .i64 y2] := (by rw [hρ]; exact hd.get 2 _ rfl rfl); have rf : ∀ f, ρ (.func f) = .func (.func f) #[] #[] := (by subst hρ; exact fun _ => rfl); clear hρ hd
          (go_simp; (try exact wrap_in _ (by omega) (by omega)))
        refine FSteps.cons (FStep.value (.bool true) (fun u w hd => wanted_on 51 86 true rfl rfl (congrArg some (hd.get 1 _ rfl rfl))) (fun _ _ => rfl) (fun _ => rfl) (fun u w hW hC (hd : After _ _ u w) ρ hρ => ?_)) ?_
        · have r90 : ρ (.tmp 90) = .bool false := (by rw [hρ]; exact hd.get 0 _ rfl rfl); clear hρ hd
          (go_simp; (try exact wrap_in _ (by omega) (by omega)))
        refine FSteps.cons (FStep.value (.bool true) (fun u w hd => wanted_on 51 86 true rfl rfl (congrArg some (hd.get 2 _ rfl rfl))) (fun _ _ => rfl) (fun _ => rfl) (fun u w hW hC (hd : After _ _ u w) ρ hρ => ?_)) ?_
        · have r91 : ρ (.tmp 91) = .bool true := (by rw [hρ]; exact hd.get 0 _ rfl rfl); clear hρ hd
          (go_simp; (try exact wrap_in _ (by omega) (by omega)))
        refine FSteps.cons (FStep.off_ 57 92 false rfl rfl (fun u w hd => .inl (congrArg some (After.get (V := vOf _) hd 0 _ rfl rfl))) (fun _ => rfl) (fun _ => rfl)) ?_
        refine FSteps.cons (FStep.off_ 57 92 false rfl rfl (fun u w hd => .inl (congrArg some (After.get (V := vOf _) hd 1 _ rfl rfl))) (fun _ => rfl) (fun _ => rfl)) ?_
        refine FSteps.cons (FStep.value (.bool true) (fun u w hd => wanted_on 51 86 true rfl rfl (congrArg some (hd.get 2 _ rfl rfl))) (fun _ _ => rfl) (fun _ => rfl) (fun u w hW hC (hd : After _ _ u w) ρ hρ => ?_)) ?_
        · have r92 : ρ (.tmp 92) = .bool true := (by rw [hρ]; exact hd.get 0 _ rfl rfl); have r94 : ρ (.tmp 94) = undef := (by rw [hρ]; exact hd.get 1 _ rfl rfl); have rc : ∀ v, ρ (.const v) = v := (by subst hρ; exact fun _ => rfl); clear hρ hd
          (go_simp; (try exact wrap_in _ (by omega) (by omega)))
        refine FSteps.cons (FStep.value (.bool true) (fun _ _ _ => wanted_none rfl) (fun _ _ => rfl) (fun _ => rfl) (fun u w hW hC (hd : After _ _ u w) ρ hρ => ?_)) ?_
        · have r86 : ρ (.tmp 86) = .bool true := (by rw [hρ]; exact hd.get 0 _ rfl rfl); have r95 : ρ (.tmp 95) = .bool true := (by rw [hρ]; exact hd.get 1 _ rfl rfl); have rc : ∀ v, ρ (.const v) = v := (by subst hρ; exact fun _ => rfl); clear hρ hd
          (go_simp; (try exact wrap_in _ (by omega) (by omega)))
        refine FSteps.cons (FStep.value (.bool true) (fun _ _ _ => wanted_none rfl) (fun _ _ => rfl) (fun _ => rfl) (fun u w hW hC (hd : After _ _ u w) ρ hρ => ?_)) ?_
        · have r96 : ρ (.tmp 96) = .bool true := (by rw [hρ]; exact hd.get 0 _ rfl rfl); clear hρ hd
          (go_simp; (try exact wrap_in _ (by omega) (by omega)))
        refine FSteps.cons (FStep.value (.agg #[.int .i64 x1, .int .i64 y1]) (fun u w hd => wanted_on 62 97 true rfl rfl (congrArg some (hd.get 0 _ rfl rfl))) (fun _ _ => rfl) (fun _ => rfl) (fun u w hW hC (hd : After _ _ u w) ρ hρ => ?_)) ?_
        · have r3 : ρ (.tmp 3) = .pointer (some ⟨w1.heap.size, 0, none⟩) := (by subst hρ; rfl); clear hρ hd
          (go_simp; (try exact wrap_in _ (by omega) (by omega)))
        refine FSteps.cons (FStep.value (.agg #[.int .i64 x2, .int .i64 y2]) (fun u w hd => wanted_on 62 97 true rfl rfl (congrArg some (hd.get 0 _ rfl rfl))) (fun _ _ => rfl) (fun _ => rfl) (fun u w hW hC (hd : After _ _ u w) ρ hρ => ?_)) ?_
        · have r4 : ρ (.tmp 4) = .pointer (some ⟨w1.heap.size + 1, 0, none⟩) := (by subst hρ; rfl); clear hρ hd
          (go_simp; (try exact wrap_in _ (by omega) (by omega)))
        refine FSteps.cons (FStep.value (.agg #[.int .i64 x3, .int .i64 y3]) (fun u w hd => wanted_on 62 97 true rfl rfl (congrArg some (hd.get 0 _ rfl rfl))) (fun _ _ => rfl) (fun _ => rfl) (fun u w hW hC (hd : After _ _ u w) ρ hρ => ?_)) ?_
        · have r5 : ρ (.tmp 5) = .pointer (some ⟨w1.heap.size + 1 + 1, 0, none⟩) := (by subst hρ; rfl); clear hρ hd
          (go_simp; (try exact wrap_in _ (by omega) (by omega)))
        refine FSteps.cons (FStep.call (.bool (decide (ab < ac))) _ #[.agg #[.int .i64 x1, .int .i64 y1], .agg #[.int .i64 x2, .int .i64 y2], .agg #[.int .i64 x3, .int .i64 y3]] (fun u w hd => wanted_on 62 97 true rfl rfl (congrArg some (hd.get 3 _ rfl rfl))) (fun _ _ => rfl) (fun _ => rfl) (fun u w hW hC (hd : After _ _ u w) ρ hρ => ?_) (fun w => IsNearer_at _ _ _ _ _ _ _ w F10.out)) ?_
        · have r98 : ρ (.tmp 98) = .agg #[.int .i64 x1, .int .i64 y1] := (by rw [hρ]; exact hd.get 0 _ rfl rfl); have r99 : ρ (.tmp 99) = .agg #[.int .i64 x2, .int .i64 y2] := (by rw [hρ]; exact hd.get 1 _ rfl rfl); have r100 : ρ (.tmp 100) = .agg #[.int .i64 x3, .int .i64 y3] := (by rw [hρ]; exact hd.get 2 _ rfl rfl); have rf : ∀ f, ρ (.func f) = .func (.func f) #[] #[] := (by subst hρ; exact fun _ => rfl); clear hρ hd
          (go_simp; (try exact wrap_in _ (by omega) (by omega)))
        refine FSteps.cons (FStep.value (.int .i64 (ab)) (fun u w hd => wanted_on 62 97 true rfl rfl (congrArg some (hd.get 0 _ rfl rfl))) (fun _ _ => rfl) (fun _ => rfl) (fun u w hW hC (hd : After _ _ u w) ρ hρ => ?_)) ?_
        · have r7 : ρ (.tmp 7) = .int .i64 (ab) := (by subst hρ; rfl); clear hρ hd
          (go_simp; (try exact wrap_in _ (by omega) (by omega)))
        refine FSteps.cons (FStep.value (.int .i64 (ac)) (fun u w hd => wanted_on 62 97 true rfl rfl (congrArg some (hd.get 0 _ rfl rfl))) (fun _ _ => rfl) (fun _ => rfl) (fun u w hW hC (hd : After _ _ u w) ρ hρ => ?_)) ?_
        · have r8 : ρ (.tmp 8) = .int .i64 (ac) := (by subst hρ; rfl); clear hρ hd
          (go_simp; (try exact wrap_in _ (by omega) (by omega)))
        refine FSteps.cons (FStep.value (.bool (decide (ab < ac))) (fun u w hd => wanted_on 62 97 true rfl rfl (congrArg some (hd.get 2 _ rfl rfl))) (fun _ _ => rfl) (fun _ => rfl) (fun u w hW hC (hd : After _ _ u w) ρ hρ => ?_)) ?_
        · have r102 : ρ (.tmp 102) = .int .i64 (ab) := (by rw [hρ]; exact hd.get 0 _ rfl rfl); have r103 : ρ (.tmp 103) = .int .i64 (ac) := (by rw [hρ]; exact hd.get 1 _ rfl rfl); clear hρ hd
          (go_simp; (try exact wrap_in _ (by omega) (by omega)))
        refine FSteps.cons (FStep.value (.bool true) (fun u w hd => wanted_on 62 97 true rfl rfl (congrArg some (hd.get 2 _ rfl rfl))) (fun _ _ => rfl) (fun _ => rfl) (fun u w hW hC (hd : After _ _ u w) ρ hρ => ?_)) ?_
        · have r101 : ρ (.tmp 101) = .bool (decide (ab < ac)) := (by rw [hρ]; exact hd.get 0 _ rfl rfl); have r104 : ρ (.tmp 104) = .bool (decide (ab < ac)) := (by rw [hρ]; exact hd.get 1 _ rfl rfl); clear hρ hd
          (go_simp; (try exact wrap_in _ (by omega) (by omega)))
        refine FSteps.cons (FStep.value (.bool true) (fun _ _ _ => wanted_none rfl) (fun _ _ => rfl) (fun _ => rfl) (fun u w hW hC (hd : After _ _ u w) ρ hρ => ?_)) ?_
        · have r97 : ρ (.tmp 97) = .bool true := (by rw [hρ]; exact hd.get 0 _ rfl rfl); have r105 : ρ (.tmp 105) = .bool true := (by rw [hρ]; exact hd.get 1 _ rfl rfl); have rc : ∀ v, ρ (.const v) = v := (by subst hρ; exact fun _ => rfl); clear hρ hd
          (go_simp; (try exact wrap_in _ (by omega) (by omega)))
        refine FSteps.cons (FStep.value (.bool true) (fun _ _ _ => wanted_none rfl) (fun _ _ => rfl) (fun _ => rfl) (fun u w hW hC (hd : After _ _ u w) ρ hρ => ?_)) ?_
        · have r106 : ρ (.tmp 106) = .bool true := (by rw [hρ]; exact hd.get 0 _ rfl rfl); clear hρ hd
          (go_simp; (try exact wrap_in _ (by omega) (by omega)))
        exact FSteps.nil
      case hV8 => (simp only [List.forall_mem_cons]; simp [stable_is])
      case fin8 =>
        intro u w2 hW2 hC2 hd
        have e72 : u 72 = .bool true := AllV.get _ 0 72 u w2 _ hd rfl
        clear hd
        refine then_normal ?_
        go_step
        refine wp_ret ?_
        refine bodyPost_ret (results_tmp rfl _ _ _) rfl ?_
        refine ⟨congrArg Ending.returned e72, Below.trans hx1 (Below.mono (show Ext w1 _ by (repeat (first | exact Ext.refl _ | assumption | apply Ext.alloc | apply Ext.drew | apply Ext.drewN | (refine Ext.trans ?_ (by assumption))))).below hx1.size)⟩
    · have ht : (t == 0) = true := by rw [beq_iff_eq]; exact hm rfl
      clear hm
      go_wp2_with (first
        | (go_at_call 7; refine (TurnOf_at _ _ _ _ _ _ _ _ (by first | exact F1.out | exact F2.out | exact F3.out)).mono ?_; rintro e wt ⟨rfl, hbt⟩; have hcc := HB.out wt (by (repeat (first | exact Ext.refl _ | assumption | apply Ext.alloc | apply Ext.drew | apply Ext.drewN | (refine Ext.trans ?_ (by assumption))))))
        | (go_at_call 8; refine (SquareOf_at _ _ _ _ _ _ (by first | exact F4.out | exact F5.out | exact F6.out)).mono ?_; rintro e wt ⟨rfl, hbt⟩; have hcc := HB.out wt (by (repeat (first | exact Ext.refl _ | assumption | apply Ext.alloc | apply Ext.drew | apply Ext.drewN | (refine Ext.trans ?_ (by assumption)))))))
      obtain ⟨wz, rfl⟩ : ∃ wz : World, wz = wt := ⟨_, rfl⟩
      simp only [List.append_eq, List.cons_append, List.nil_append]
      refine wp_flow (by kernel_rfl) (by kernel_rfl) (fun u => ⟨#[_, _, u 72, _, _, _, _, _, _, _, _, _, _, _, _, _, _, _, _, _, _, _, _, _, _, _, _, _, _, _, _, _, _, _, _, u 0, u 1, u 2, u 3, u 4, u 5, u 6, u 7, u 8, u 9, u 10, u 11, u 12, u 13, u 14, u 15, u 16, u 17, u 18, u 19, u 20, u 21, u 22, u 23, u 24, u 25, u 26, u 27, u 28, u 29, u 30, u 31, u 32, u 33, u 34, u 35, u 36, u 37, u 38, u 39, u 40, u 41, u 42, u 43, u 44, u 45, u 46, u 47, u 48, u 49, u 50, u 51, u 52, u 53, u 54, u 55, u 56, u 57, u 58, u 59, u 60, u 61, u 62, u 63, u 64, u 65, u 66, u 67, u 68, u 69, u 70, u 71], _⟩) (fun i => List.getD [_, _, _, _, _, _, _, _, _, _, _, _, _, _, _, _, _, _, _, _, _, _, _, _, _, _, _, _, _, _, _, _, _, _, _, _, _, _, _, _, _, _, _, _, _, _, _, _, _, _, _, _, _, _, _, _, _, _, _, _, _, _, _, _, _, _, _, _, _, _, _, _, _] i undef) [is (.agg #[.int .i64 x2, .int .i64 y2]), is (.agg #[.int .i64 x3, .int .i64 y3]), is (.agg #[.int .i64 x1, .int .i64 y1]), is (.int .i64 (t)), is (.int .i64 (t)), is (.bool true), is (.bool true), is (.agg #[.int .i64 x1, .int .i64 y1]), is (.agg #[.int .i64 x3, .int .i64 y3]), is (.agg #[.int .i64 x2, .int .i64 y2]), is (.int .i64 (-t)), is (.int .i64 (t)), is (.int .i64 (-t)), is (.bool true), is (.bool true), is (.bool true), is (.int .i64 (t)), is (.int .i64 (4 * t)), is (.int .i64 (t)), is (.int .i64 (p1)), is (.int .i64 (ab + ac - bc)), is (.int .i64 (ab + ac - bc)), is (.int .i64 (p2)), is (.int .i64 (p1 + p2)), is (.int .i64 (ab)), is (.int .i64 (4 * ab)), is (.int .i64 (ac)), is (.int .i64 (p3)), is (.bool true), is (.bool true), is (.bool true), is (.int .i64 (ab)), is (.bool true), is (.bool true), is (.bool true), is (.agg #[.int .i64 x1, .int .i64 y1]), is (.agg #[.int .i64 x1, .int .i64 y1]), is (.agg #[.int .i64 x2, .int .i64 y2]), is (.bool true), is (.bool true), is (.bool true), is (.agg #[.int .i64 x3, .int .i64 y3]), is (.agg #[.int .i64 x1, .int .i64 y1]), is (.agg #[.int .i64 x2, .int .i64 y2]), is (.bool true), is (.agg #[.int .i64 x3, .int .i64 y3]), is (.agg #[.int .i64 x2, .int .i64 y2]), is (.agg #[.int .i64 x1, .int .i64 y1]), is (.bool true), is (.bool true), is (.bool true), is (.bool true), is (.agg #[.int .i64 x3, .int .i64 y3]), is (.agg #[.int .i64 x1, .int .i64 y1]), is (.agg #[.int .i64 x2, .int .i64 y2]), is (.bool true), is (.bool false), is (.bool false), is (.int .i64 (t)), is (.bool true), is (.bool true), is (.bool true), is (.bool true), is (.agg #[.int .i64 x1, .int .i64 y1]), is (.agg #[.int .i64 x2, .int .i64 y2]), is (.agg #[.int .i64 x3, .int .i64 y3]), is (.bool (decide (ab < ac))), is (.int .i64 (ab)), is (.int .i64 (ac)), is (.bool (decide (ab < ac))), is (.bool true), is (.bool true), is (.bool true)] (fun w' => w'.cell? ⟨w1.heap.size, 0, none⟩ = some (.int .i64 x1) ∧ w'.cell? ⟨w1.heap.size, 1, none⟩ = some (.int .i64 y1) ∧ w1.heap.size < w'.heap.size ∧ w'.cell? ⟨w1.heap.size + 1, 0, none⟩ = some (.int .i64 x2) ∧ w'.cell? ⟨w1.heap.size + 1, 1, none⟩ = some (.int .i64 y2) ∧ w1.heap.size + 1 < w'.heap.size ∧ w'.cell? ⟨w1.heap.size + 1 + 1, 0, none⟩ = some (.int .i64 x3) ∧ w'.cell? ⟨w1.heap.size + 1 + 1, 1, none⟩ = some (.int .i64 y3) ∧ w1.heap.size + 1 + 1 < w'.heap.size) _ rfl ?hC9 ?hs9 ?hV9 ?fin9
      case hC9 => exact fun w' hx => (by have hq : Ext _ w' := hx; have hf0 := HB.out w' (by (repeat (first | exact Ext.refl _ | assumption | apply Ext.alloc | apply Ext.drew | apply Ext.drewN | (refine Ext.trans ?_ (by assumption))))); and_intros <;> first | exact hf0 | exact hf0.1 | exact hf0.2.1 | exact hf0.2.2.1 | exact hf0.2.2.2.1 | exact hf0.2.2.2.2.1 | exact hf0.2.2.2.2.2.1 | exact hf0.2.2.2.2.2.2.1 | exact hf0.2.2.2.2.2.2.2.1 | exact hf0.2.2.2.2.2.2.2.2.1 | exact hf0.2.2.2.2.2.2.2.2.2.1 | exact hf0.2.2.2.2.2.2.2.2.2.2.1 | exact hf0.2.2.2.2.2.2.2.2.2.2.2.1 | exact hf0.2.2.2.2.2.2.2.2.2.2.2.2.1 | exact hf0.2.2.2.2.2.2.2.2.2.2.2.2.2.1 | exact hf0.2 | exact hf0.2.2 | exact hf0.2.2.2 | exact hf0.2.2.2.2 | exact hf0.2.2.2.2.2 | exact hf0.2.2.2.2.2.2 | exact hf0.2.2.2.2.2.2.2 | exact hf0.2.2.2.2.2.2.2.2 | exact hf0.2.2.2.2.2.2.2.2.2 | exact hf0.2.2.2.2.2.2.2.2.2.2 | exact hf0.2.2.2.2.2.2.2.2.2.2.2 | exact hf0.2.2.2.2.2.2.2.2.2.2.2.2 | exact hf0.2.2.2.2.2.2.2.2.2.2.2.2.2)
      case hs9 =>
        refine FSteps.cons (FStep.value (.agg #[.int .i64 x2, .int .i64 y2]) (fun _ _ _ => wanted_none rfl) (fun _ _ => rfl) (fun _ => rfl) (fun u w hW hC (hd : After _ _ u w) ρ hρ => ?_)) ?_
        · have r4 : ρ (.tmp 4) = .pointer (some ⟨w1.heap.size + 1, 0, none⟩) := (by subst hρ; rfl); clear hρ hd
          (go_simp; (try exact wrap_in _ (by omega) (by omega)))
        refine FSteps.cons (FStep.value (.agg #[.int .i64 x3, .int .i64 y3]) (fun _ _ _ => wanted_none rfl) (fun _ _ => rfl) (fun _ => rfl) (fun u w hW hC (hd : After _ _ u w) ρ hρ => ?_)) ?_
        · have r5 : ρ (.tmp 5) = .pointer (some ⟨w1.heap.size + 1 + 1, 0, none⟩) := (by subst hρ; rfl); clear hρ hd
          (go_simp; (try exact wrap_in _ (by omega) (by omega)))
        refine FSteps.cons (FStep.value (.agg #[.int .i64 x1, .int .i64 y1]) (fun _ _ _ => wanted_none rfl) (fun _ _ => rfl) (fun _ => rfl) (fun u w hW hC (hd : After _ _ u w) ρ hρ => ?_)) ?_
        · have r3 : ρ (.tmp 3) = .pointer (some ⟨w1.heap.size, 0, none⟩) := (by subst hρ; rfl); clear hρ hd
          (go_simp; (try exact wrap_in _ (by omega) (by omega)))
        refine FSteps.cons (FStep.call (.int .i64 (t)) _ #[.agg #[.int .i64 x2, .int .i64 y2], .agg #[.int .i64 x3, .int .i64 y3], .agg #[.int .i64 x1, .int .i64 y1]] (fun _ _ _ => wanted_none rfl) (fun _ _ => rfl) (fun _ => rfl) (fun u w hW hC (hd : After _ _ u w) ρ hρ => ?_) (fun w => TurnOf_at _ _ _ _ _ _ _ w F2.out)) ?_
        · have r35 : ρ (.tmp 35) = .agg #[.int .i64 x2, .int .i64 y2] := (by rw [hρ]; exact hd.get 0 _ rfl rfl); have r36 : ρ (.tmp 36) = .agg #[.int .i64 x3, .int .i64 y3] := (by rw [hρ]; exact hd.get 1 _ rfl rfl); have r37 : ρ (.tmp 37) = .agg #[.int .i64 x1, .int .i64 y1] := (by rw [hρ]; exact hd.get 2 _ rfl rfl); have rf : ∀ f, ρ (.func f) = .func (.func f) #[] #[] := (by subst hρ; exact fun _ => rfl); clear hρ hd
          (go_simp; (try exact wrap_in _ (by omega) (by omega)))
        refine FSteps.cons (FStep.value (.int .i64 (t)) (fun _ _ _ => wanted_none rfl) (fun _ _ => rfl) (fun _ => rfl) (fun u w hW hC (hd : After _ _ u w) ρ hρ => ?_)) ?_
        · have r6 : ρ (.tmp 6) = .int .i64 (t) := (by subst hρ; rfl); clear hρ hd
          (go_simp; (try exact wrap_in _ (by omega) (by omega)))
        refine FSteps.cons (FStep.value (.bool true) (fun _ _ _ => wanted_none rfl) (fun _ _ => rfl) (fun _ => rfl) (fun u w hW hC (hd : After _ _ u w) ρ hρ => ?_)) ?_
        · have r38 : ρ (.tmp 38) = .int .i64 (t) := (by rw [hρ]; exact hd.get 0 _ rfl rfl); have r39 : ρ (.tmp 39) = .int .i64 (t) := (by rw [hρ]; exact hd.get 1 _ rfl rfl); clear hρ hd
          (go_simp; (try exact wrap_in _ (by omega) (by omega)))
        refine FSteps.cons (FStep.value (.bool true) (fun _ _ _ => wanted_none rfl) (fun _ _ => rfl) (fun _ => rfl) (fun u w hW hC (hd : After _ _ u w) ρ hρ => ?_)) ?_
        · have r40 : ρ (.tmp 40) = .bool true := (by rw [hρ]; exact hd.get 0 _ rfl rfl); clear hρ hd
          (go_simp; (try exact wrap_in _ (by omega) (by omega)))
        refine FSteps.cons (FStep.value (.agg #[.int .i64 x1, .int .i64 y1]) (fun u w hd => wanted_on 6 41 true rfl rfl (congrArg some (hd.get 0 _ rfl rfl))) (fun _ _ => rfl) (fun _ => rfl) (fun u w hW hC (hd : After _ _ u w) ρ hρ => ?_)) ?_
        · have r3 : ρ (.tmp 3) = .pointer (some ⟨w1.heap.size, 0, none⟩) := (by subst hρ; rfl); clear hρ hd
          (go_simp; (try exact wrap_in _ (by omega) (by omega)))
        refine FSteps.cons (FStep.value (.agg #[.int .i64 x3, .int .i64 y3]) (fun u w hd => wanted_on 6 41 true rfl rfl (congrArg some (hd.get 0 _ rfl rfl))) (fun _ _ => rfl) (fun _ => rfl) (fun u w hW hC (hd : After _ _ u w) ρ hρ => ?_)) ?_
        · have r5 : ρ (.tmp 5) = .pointer (some ⟨w1.heap.size + 1 + 1, 0, none⟩) := (by subst hρ; rfl); clear hρ hd
          (go_simp; (try exact wrap_in _ (by omega) (by omega)))
        refine FSteps.cons (FStep.value (.agg #[.int .i64 x2, .int .i64 y2]) (fun u w hd => wanted_on 6 41 true rfl rfl (congrArg some (hd.get 0 _ rfl rfl))) (fun _ _ => rfl) (fun _ => rfl) (fun u w hW hC (hd : After _ _ u w) ρ hρ => ?_)) ?_
        · have r4 : ρ (.tmp 4) = .pointer (some ⟨w1.heap.size + 1, 0, none⟩) := (by subst hρ; rfl); clear hρ hd
          (go_simp; (try exact wrap_in _ (by omega) (by omega)))
        refine FSteps.cons (FStep.call (.int .i64 (-t)) _ #[.agg #[.int .i64 x1, .int .i64 y1], .agg #[.int .i64 x3, .int .i64 y3], .agg #[.int .i64 x2, .int .i64 y2]] (fun u w hd => wanted_on 6 41 true rfl rfl (congrArg some (hd.get 3 _ rfl rfl))) (fun _ _ => rfl) (fun _ => rfl) (fun u w hW hC (hd : After _ _ u w) ρ hρ => ?_) (fun w => TurnOf_at _ _ _ _ _ _ _ w F3.out)) ?_
        · have r42 : ρ (.tmp 42) = .agg #[.int .i64 x1, .int .i64 y1] := (by rw [hρ]; exact hd.get 0 _ rfl rfl); have r43 : ρ (.tmp 43) = .agg #[.int .i64 x3, .int .i64 y3] := (by rw [hρ]; exact hd.get 1 _ rfl rfl); have r44 : ρ (.tmp 44) = .agg #[.int .i64 x2, .int .i64 y2] := (by rw [hρ]; exact hd.get 2 _ rfl rfl); have rf : ∀ f, ρ (.func f) = .func (.func f) #[] #[] := (by subst hρ; exact fun _ => rfl); clear hρ hd
          (go_simp; (try exact wrap_in _ (by omega) (by omega)))
        refine FSteps.cons (FStep.value (.int .i64 (t)) (fun u w hd => wanted_on 6 41 true rfl rfl (congrArg some (hd.get 0 _ rfl rfl))) (fun _ _ => rfl) (fun _ => rfl) (fun u w hW hC (hd : After _ _ u w) ρ hρ => ?_)) ?_
        · have r6 : ρ (.tmp 6) = .int .i64 (t) := (by subst hρ; rfl); clear hρ hd
          (go_simp; (try exact wrap_in _ (by omega) (by omega)))
        refine FSteps.cons (FStep.value (.int .i64 (-t)) (fun u w hd => wanted_on 6 41 true rfl rfl (congrArg some (hd.get 1 _ rfl rfl))) (fun _ _ => rfl) (fun _ => rfl) (fun u w hW hC (hd : After _ _ u w) ρ hρ => ?_)) ?_
        · have r46 : ρ (.tmp 46) = .int .i64 (t) := (by rw [hρ]; exact hd.get 0 _ rfl rfl); clear hρ hd
          (go_simp; (try exact wrap_in _ (by omega) (by omega)))
        refine FSteps.cons (FStep.value (.bool true) (fun u w hd => wanted_on 6 41 true rfl rfl (congrArg some (hd.get 2 _ rfl rfl))) (fun _ _ => rfl) (fun _ => rfl) (fun u w hW hC (hd : After _ _ u w) ρ hρ => ?_)) ?_
        · have r45 : ρ (.tmp 45) = .int .i64 (-t) := (by rw [hρ]; exact hd.get 0 _ rfl rfl); have r47 : ρ (.tmp 47) = .int .i64 (-t) := (by rw [hρ]; exact hd.get 1 _ rfl rfl); clear hρ hd
          (go_simp; (try exact wrap_in _ (by omega) (by omega)))
        refine FSteps.cons (FStep.value (.bool true) (fun _ _ _ => wanted_none rfl) (fun _ _ => rfl) (fun _ => rfl) (fun u w hW hC (hd : After _ _ u w) ρ hρ => ?_)) ?_
        · have r41 : ρ (.tmp 41) = .bool true := (by rw [hρ]; exact hd.get 0 _ rfl rfl); have r48 : ρ (.tmp 48) = .bool true := (by rw [hρ]; exact hd.get 1 _ rfl rfl); have rc : ∀ v, ρ (.const v) = v := (by subst hρ; exact fun _ => rfl); clear hρ hd
          (go_simp; (try exact wrap_in _ (by omega) (by omega)))
        refine FSteps.cons (FStep.value (.bool true) (fun _ _ _ => wanted_none rfl) (fun _ _ => rfl) (fun _ => rfl) (fun u w hW hC (hd : After _ _ u w) ρ hρ => ?_)) ?_
        · have r49 : ρ (.tmp 49) = .bool true := (by rw [hρ]; exact hd.get 0 _ rfl rfl); clear hρ hd
          (go_simp; (try exact wrap_in _ (by omega) (by omega)))
        refine FSteps.cons (FStep.value (.int .i64 (t)) (fun u w hd => wanted_on 15 50 true rfl rfl (congrArg some (hd.get 0 _ rfl rfl))) (fun _ _ => rfl) (fun _ => rfl) (fun u w hW hC (hd : After _ _ u w) ρ hρ => ?_)) ?_
        · have r6 : ρ (.tmp 6) = .int .i64 (t) := (by subst hρ; rfl); clear hρ hd
          (go_simp; (try exact wrap_in _ (by omega) (by omega)))
        refine FSteps.cons (FStep.value (.int .i64 (4 * t)) (fun u w hd => wanted_on 15 50 true rfl rfl (congrArg some (hd.get 1 _ rfl rfl))) (fun _ _ => rfl) (fun _ => rfl) (fun u w hW hC (hd : After _ _ u w) ρ hρ => ?_)) ?_
        · have r51 : ρ (.tmp 51) = .int .i64 (t) := (by rw [hρ]; exact hd.get 0 _ rfl rfl); have rc : ∀ v, ρ (.const v) = v := (by subst hρ; exact fun _ => rfl); clear hρ hd
          (go_simp; (try exact wrap_in _ (by omega) (by omega)))
        refine FSteps.cons (FStep.value (.int .i64 (t)) (fun u w hd => wanted_on 15 50 true rfl rfl (congrArg some (hd.get 0 _ rfl rfl))) (fun _ _ => rfl) (fun _ => rfl) (fun u w hW hC (hd : After _ _ u w) ρ hρ => ?_)) ?_
        · have r6 : ρ (.tmp 6) = .int .i64 (t) := (by subst hρ; rfl); clear hρ hd
          (go_simp; (try exact wrap_in _ (by omega) (by omega)))
        refine FSteps.cons (FStep.value (.int .i64 (p1)) (fun u w hd => wanted_on 15 50 true rfl rfl (congrArg some (hd.get 2 _ rfl rfl))) (fun _ _ => rfl) (fun _ => rfl) (fun u w hW hC (hd : After _ _ u w) ρ hρ => ?_)) ?_
        · have r52 : ρ (.tmp 52) = .int .i64 (4 * t) := (by rw [hρ]; exact hd.get 0 _ rfl rfl); have r53 : ρ (.tmp 53) = .int .i64 (t) := (by rw [hρ]; exact hd.get 1 _ rfl rfl); clear hρ hd
          (go_simp; (try exact wrap_in _ (by omega) (by omega)))
        refine FSteps.cons (FStep.value (.int .i64 (ab + ac - bc)) (fun u w hd => wanted_on 15 50 true rfl rfl (congrArg some (hd.get 0 _ rfl rfl))) (fun _ _ => rfl) (fun _ => rfl) (fun u w hW hC (hd : After _ _ u w) ρ hρ => ?_)) ?_
        · have r9 : ρ (.tmp 9) = .int .i64 (ab + ac - bc) := (by subst hρ; rfl); clear hρ hd
          (go_simp; (try exact wrap_in _ (by omega) (by omega)))
        refine FSteps.cons (FStep.value (.int .i64 (ab + ac - bc)) (fun u w hd => wanted_on 15 50 true rfl rfl (congrArg some (hd.get 0 _ rfl rfl))) (fun _ _ => rfl) (fun _ => rfl) (fun u w hW hC (hd : After _ _ u w) ρ hρ => ?_)) ?_
        · have r9 : ρ (.tmp 9) = .int .i64 (ab + ac - bc) := (by subst hρ; rfl); clear hρ hd
          (go_simp; (try exact wrap_in _ (by omega) (by omega)))
        refine FSteps.cons (FStep.value (.int .i64 (p2)) (fun u w hd => wanted_on 15 50 true rfl rfl (congrArg some (hd.get 2 _ rfl rfl))) (fun _ _ => rfl) (fun _ => rfl) (fun u w hW hC (hd : After _ _ u w) ρ hρ => ?_)) ?_
        · have r55 : ρ (.tmp 55) = .int .i64 (ab + ac - bc) := (by rw [hρ]; exact hd.get 0 _ rfl rfl); have r56 : ρ (.tmp 56) = .int .i64 (ab + ac - bc) := (by rw [hρ]; exact hd.get 1 _ rfl rfl); clear hρ hd
          (go_simp; (try exact wrap_in _ (by omega) (by omega)))
        refine FSteps.cons (FStep.value (.int .i64 (p1 + p2)) (fun u w hd => wanted_on 15 50 true rfl rfl (congrArg some (hd.get 2 _ rfl rfl))) (fun _ _ => rfl) (fun _ => rfl) (fun u w hW hC (hd : After _ _ u w) ρ hρ => ?_)) ?_
        · have r54 : ρ (.tmp 54) = .int .i64 (p1) := (by rw [hρ]; exact hd.get 0 _ rfl rfl); have r57 : ρ (.tmp 57) = .int .i64 (p2) := (by rw [hρ]; exact hd.get 1 _ rfl rfl); clear hρ hd
          (go_simp; (try exact wrap_in _ (by omega) (by omega)))
        refine FSteps.cons (FStep.value (.int .i64 (ab)) (fun u w hd => wanted_on 15 50 true rfl rfl (congrArg some (hd.get 0 _ rfl rfl))) (fun _ _ => rfl) (fun _ => rfl) (fun u w hW hC (hd : After _ _ u w) ρ hρ => ?_)) ?_
        · have r7 : ρ (.tmp 7) = .int .i64 (ab) := (by subst hρ; rfl); clear hρ hd
          (go_simp; (try exact wrap_in _ (by omega) (by omega)))
        refine FSteps.cons (FStep.value (.int .i64 (4 * ab)) (fun u w hd => wanted_on 15 50 true rfl rfl (congrArg some (hd.get 1 _ rfl rfl))) (fun _ _ => rfl) (fun _ => rfl) (fun u w hW hC (hd : After _ _ u w) ρ hρ => ?_)) ?_
        · have r59 : ρ (.tmp 59) = .int .i64 (ab) := (by rw [hρ]; exact hd.get 0 _ rfl rfl); have rc : ∀ v, ρ (.const v) = v := (by subst hρ; exact fun _ => rfl); clear hρ hd
          (go_simp; (try exact wrap_in _ (by omega) (by omega)))
        refine FSteps.cons (FStep.value (.int .i64 (ac)) (fun u w hd => wanted_on 15 50 true rfl rfl (congrArg some (hd.get 0 _ rfl rfl))) (fun _ _ => rfl) (fun _ => rfl) (fun u w hW hC (hd : After _ _ u w) ρ hρ => ?_)) ?_
        · have r8 : ρ (.tmp 8) = .int .i64 (ac) := (by subst hρ; rfl); clear hρ hd
          (go_simp; (try exact wrap_in _ (by omega) (by omega)))
        refine FSteps.cons (FStep.value (.int .i64 (p3)) (fun u w hd => wanted_on 15 50 true rfl rfl (congrArg some (hd.get 2 _ rfl rfl))) (fun _ _ => rfl) (fun _ => rfl) (fun u w hW hC (hd : After _ _ u w) ρ hρ => ?_)) ?_
        · have r60 : ρ (.tmp 60) = .int .i64 (4 * ab) := (by rw [hρ]; exact hd.get 0 _ rfl rfl); have r61 : ρ (.tmp 61) = .int .i64 (ac) := (by rw [hρ]; exact hd.get 1 _ rfl rfl); clear hρ hd
          (go_simp; (try exact wrap_in _ (by omega) (by omega)))
        refine FSteps.cons (FStep.value (.bool true) (fun u w hd => wanted_on 15 50 true rfl rfl (congrArg some (hd.get 2 _ rfl rfl))) (fun _ _ => rfl) (fun _ => rfl) (fun u w hW hC (hd : After _ _ u w) ρ hρ => ?_)) ?_
        · have r58 : ρ (.tmp 58) = .int .i64 (p1 + p2) := (by rw [hρ]; exact hd.get 0 _ rfl rfl); have r62 : ρ (.tmp 62) = .int .i64 (p3) := (by rw [hρ]; exact hd.get 1 _ rfl rfl); clear hρ hd
          (go_simp; (try exact wrap_in _ (by omega) (by omega)))
        refine FSteps.cons (FStep.value (.bool true) (fun _ _ _ => wanted_none rfl) (fun _ _ => rfl) (fun _ => rfl) (fun u w hW hC (hd : After _ _ u w) ρ hρ => ?_)) ?_
        · have r50 : ρ (.tmp 50) = .bool true := (by rw [hρ]; exact hd.get 0 _ rfl rfl); have r63 : ρ (.tmp 63) = .bool true := (by rw [hρ]; exact hd.get 1 _ rfl rfl); have rc : ∀ v, ρ (.const v) = v := (by subst hρ; exact fun _ => rfl); clear hρ hd
          (go_simp; (try exact wrap_in _ (by omega) (by omega)))
        refine FSteps.cons (FStep.value (.bool true) (fun _ _ _ => wanted_none rfl) (fun _ _ => rfl) (fun _ => rfl) (fun u w hW hC (hd : After _ _ u w) ρ hρ => ?_)) ?_
        · have r64 : ρ (.tmp 64) = .bool true := (by rw [hρ]; exact hd.get 0 _ rfl rfl); clear hρ hd
          (go_simp; (try exact wrap_in _ (by omega) (by omega)))
        refine FSteps.cons (FStep.value (.int .i64 (ab)) (fun u w hd => wanted_on 30 65 true rfl rfl (congrArg some (hd.get 0 _ rfl rfl))) (fun _ _ => rfl) (fun _ => rfl) (fun u w hW hC (hd : After _ _ u w) ρ hρ => ?_)) ?_
        · have r7 : ρ (.tmp 7) = .int .i64 (ab) := (by subst hρ; rfl); clear hρ hd
          (go_simp; (try exact wrap_in _ (by omega) (by omega)))
        refine FSteps.cons (FStep.value (.bool true) (fun u w hd => wanted_on 30 65 true rfl rfl (congrArg some (hd.get 1 _ rfl rfl))) (fun _ _ => rfl) (fun _ => rfl) (fun u w hW hC (hd : After _ _ u w) ρ hρ => ?_)) ?_
        · have r66 : ρ (.tmp 66) = .int .i64 (ab) := (by rw [hρ]; exact hd.get 0 _ rfl rfl); have rc : ∀ v, ρ (.const v) = v := (by subst hρ; exact fun _ => rfl); clear hρ hd
          (go_simp; (try exact wrap_in _ (by omega) (by omega)))
        refine FSteps.cons (FStep.value (.bool true) (fun _ _ _ => wanted_none rfl) (fun _ _ => rfl) (fun _ => rfl) (fun u w hW hC (hd : After _ _ u w) ρ hρ => ?_)) ?_
        · have r65 : ρ (.tmp 65) = .bool true := (by rw [hρ]; exact hd.get 0 _ rfl rfl); have r67 : ρ (.tmp 67) = .bool true := (by rw [hρ]; exact hd.get 1 _ rfl rfl); have rc : ∀ v, ρ (.const v) = v := (by subst hρ; exact fun _ => rfl); clear hρ hd
          (go_simp; (try exact wrap_in _ (by omega) (by omega)))
        refine FSteps.cons (FStep.value (.bool true) (fun _ _ _ => wanted_none rfl) (fun _ _ => rfl) (fun _ => rfl) (fun u w hW hC (hd : After _ _ u w) ρ hρ => ?_)) ?_
        · have r68 : ρ (.tmp 68) = .bool true := (by rw [hρ]; exact hd.get 0 _ rfl rfl); clear hρ hd
          (go_simp; (try exact wrap_in _ (by omega) (by omega)))
        refine FSteps.cons (FStep.value (.agg #[.int .i64 x1, .int .i64 y1]) (fun u w hd => wanted_on 34 69 true rfl rfl (congrArg some (hd.get 0 _ rfl rfl))) (fun _ _ => rfl) (fun _ => rfl) (fun u w hW hC (hd : After _ _ u w) ρ hρ => ?_)) ?_
        · have r3 : ρ (.tmp 3) = .pointer (some ⟨w1.heap.size, 0, none⟩) := (by subst hρ; rfl); clear hρ hd
          (go_simp; (try exact wrap_in _ (by omega) (by omega)))
        refine FSteps.cons (FStep.value (.agg #[.int .i64 x1, .int .i64 y1]) (fun u w hd => wanted_on 34 69 true rfl rfl (congrArg some (hd.get 0 _ rfl rfl))) (fun _ _ => rfl) (fun _ => rfl) (fun u w hW hC (hd : After _ _ u w) ρ hρ => ?_)) ?_
        · have r3 : ρ (.tmp 3) = .pointer (some ⟨w1.heap.size, 0, none⟩) := (by subst hρ; rfl); clear hρ hd
          (go_simp; (try exact wrap_in _ (by omega) (by omega)))
        refine FSteps.cons (FStep.value (.agg #[.int .i64 x2, .int .i64 y2]) (fun u w hd => wanted_on 34 69 true rfl rfl (congrArg some (hd.get 0 _ rfl rfl))) (fun _ _ => rfl) (fun _ => rfl) (fun u w hW hC (hd : After _ _ u w) ρ hρ => ?_)) ?_
        · have r4 : ρ (.tmp 4) = .pointer (some ⟨w1.heap.size + 1, 0, none⟩) := (by subst hρ; rfl); clear hρ hd
          (go_simp; (try exact wrap_in _ (by omega) (by omega)))
        refine FSteps.cons (FStep.call (.bool true) _ #[.agg #[.int .i64 x1, .int .i64 y1], .agg #[.int .i64 x1, .int .i64 y1], .agg #[.int .i64 x2, .int .i64 y2]] (fun u w hd => wanted_on 34 69 true rfl rfl (congrArg some (hd.get 3 _ rfl rfl))) (fun _ _ => rfl) (fun _ => rfl) (fun u w hW hC (hd : After _ _ u w) ρ hρ => ?_) (fun w => IsBetween_at _ _ _ _ _ _ _ w F7.out)) ?_
        · have r70 : ρ (.tmp 70) = .agg #[.int .i64 x1, .int .i64 y1] := (by rw [hρ]; exact hd.get 0 _ rfl rfl); have r71 : ρ (.tmp 71) = .agg #[.int .i64 x1, .int .i64 y1] := (by rw [hρ]; exact hd.get 1 _ rfl rfl); have r72 : ρ (.tmp 72) = .agg #[.int .i64 x2, .int .i64 y2] := (by rw [hρ]; exact hd.get 2 _ rfl rfl); have rf : ∀ f, ρ (.func f) = .func (.func f) #[] #[] := (by subst hρ; exact fun _ => rfl); clear hρ hd
          (go_simp; (try exact wrap_in _ (by omega) (by omega)))
        refine FSteps.cons (FStep.value (.bool true) (fun _ _ _ => wanted_none rfl) (fun _ _ => rfl) (fun _ => rfl) (fun u w hW hC (hd : After _ _ u w) ρ hρ => ?_)) ?_
        · have r69 : ρ (.tmp 69) = .bool true := (by rw [hρ]; exact hd.get 0 _ rfl rfl); have r73 : ρ (.tmp 73) = .bool true := (by rw [hρ]; exact hd.get 1 _ rfl rfl); have rc : ∀ v, ρ (.const v) = v := (by subst hρ; exact fun _ => rfl); clear hρ hd
          (go_simp; (try exact wrap_in _ (by omega) (by omega)))
        refine FSteps.cons (FStep.value (.bool true) (fun _ _ _ => wanted_none rfl) (fun _ _ => rfl) (fun _ => rfl) (fun u w hW hC (hd : After _ _ u w) ρ hρ => ?_)) ?_
        · have r74 : ρ (.tmp 74) = .bool true := (by rw [hρ]; exact hd.get 0 _ rfl rfl); clear hρ hd
          (go_simp; (try exact wrap_in _ (by omega) (by omega)))
        refine FSteps.cons (FStep.value (.agg #[.int .i64 x3, .int .i64 y3]) (fun u w hd => wanted_on 40 75 true rfl rfl (congrArg some (hd.get 0 _ rfl rfl))) (fun _ _ => rfl) (fun _ => rfl) (fun u w hW hC (hd : After _ _ u w) ρ hρ => ?_)) ?_
        · have r5 : ρ (.tmp 5) = .pointer (some ⟨w1.heap.size + 1 + 1, 0, none⟩) := (by subst hρ; rfl); clear hρ hd
          (go_simp; (try exact wrap_in _ (by omega) (by omega)))
        refine FSteps.cons (FStep.value (.agg #[.int .i64 x1, .int .i64 y1]) (fun u w hd => wanted_on 40 75 true rfl rfl (congrArg some (hd.get 0 _ rfl rfl))) (fun _ _ => rfl) (fun _ => rfl) (fun u w hW hC (hd : After _ _ u w) ρ hρ => ?_)) ?_
        · have r3 : ρ (.tmp 3) = .pointer (some ⟨w1.heap.size, 0, none⟩) := (by subst hρ; rfl); clear hρ hd
          (go_simp; (try exact wrap_in _ (by omega) (by omega)))
        refine FSteps.cons (FStep.value (.agg #[.int .i64 x2, .int .i64 y2]) (fun u w hd => wanted_on 40 75 true rfl rfl (congrArg some (hd.get 0 _ rfl rfl))) (fun _ _ => rfl) (fun _ => rfl) (fun u w hW hC (hd : After _ _ u w) ρ hρ => ?_)) ?_
        · have r4 : ρ (.tmp 4) = .pointer (some ⟨w1.heap.size + 1, 0, none⟩) := (by subst hρ; rfl); clear hρ hd
          (go_simp; (try exact wrap_in _ (by omega) (by omega)))
        refine FSteps.cons (FStep.call (.bool true) _ #[.agg #[.int .i64 x3, .int .i64 y3], .agg #[.int .i64 x1, .int .i64 y1], .agg #[.int .i64 x2, .int .i64 y2]] (fun u w hd => wanted_on 40 75 true rfl rfl (congrArg some (hd.get 3 _ rfl rfl))) (fun _ _ => rfl) (fun _ => rfl) (fun u w hW hC (hd : After _ _ u w) ρ hρ => ?_) (fun w => IsBetween_at _ _ _ _ _ _ _ w F8.out)) ?_
        · have r76 : ρ (.tmp 76) = .agg #[.int .i64 x3, .int .i64 y3] := (by rw [hρ]; exact hd.get 0 _ rfl rfl); have r77 : ρ (.tmp 77) = .agg #[.int .i64 x1, .int .i64 y1] := (by rw [hρ]; exact hd.get 1 _ rfl rfl); have r78 : ρ (.tmp 78) = .agg #[.int .i64 x2, .int .i64 y2] := (by rw [hρ]; exact hd.get 2 _ rfl rfl); have rf : ∀ f, ρ (.func f) = .func (.func f) #[] #[] := (by subst hρ; exact fun _ => rfl); clear hρ hd
          (go_simp; (try exact wrap_in _ (by omega) (by omega)))
        refine FSteps.cons (FStep.value (.agg #[.int .i64 x3, .int .i64 y3]) (fun u w hd => wanted_on 40 75 true rfl rfl (congrArg some (hd.get 0 _ rfl rfl))) (fun _ _ => rfl) (fun _ => rfl) (fun u w hW hC (hd : After _ _ u w) ρ hρ => ?_)) ?_
        · have r5 : ρ (.tmp 5) = .pointer (some ⟨w1.heap.size + 1 + 1, 0, none⟩) := (by subst hρ; rfl); clear hρ hd
          (go_simp; (try exact wrap_in _ (by omega) (by omega)))
        refine FSteps.cons (FStep.value (.agg #[.int .i64 x2, .int .i64 y2]) (fun u w hd => wanted_on 40 75 true rfl rfl (congrArg some (hd.get 0 _ rfl rfl))) (fun _ _ => rfl) (fun _ => rfl) (fun u w hW hC (hd : After _ _ u w) ρ hρ => ?_)) ?_
        · have r4 : ρ (.tmp 4) = .pointer (some ⟨w1.heap.size + 1, 0, none⟩) := (by subst hρ; rfl); clear hρ hd
          (go_simp; (try exact wrap_in _ (by omega) (by omega)))
        refine FSteps.cons (FStep.value (.agg #[.int .i64 x1, .int .i64 y1]) (fun u w hd => wanted_on 40 75 true rfl rfl (congrArg some (hd.get 0 _ rfl rfl))) (fun _ _ => rfl) (fun _ => rfl) (fun u w hW hC (hd : After _ _ u w) ρ hρ => ?_)) ?_
        · have r3 : ρ (.tmp 3) = .pointer (some ⟨w1.heap.size, 0, none⟩) := (by subst hρ; rfl); clear hρ hd
          (go_simp; (try exact wrap_in _ (by omega) (by omega)))
        refine FSteps.cons (FStep.call (.bool true) _ #[.agg #[.int .i64 x3, .int .i64 y3], .agg #[.int .i64 x2, .int .i64 y2], .agg #[.int .i64 x1, .int .i64 y1]] (fun u w hd => wanted_on 40 75 true rfl rfl (congrArg some (hd.get 4 _ rfl rfl))) (fun _ _ => rfl) (fun _ => rfl) (fun u w hW hC (hd : After _ _ u w) ρ hρ => ?_) (fun w => IsBetween_at _ _ _ _ _ _ _ w F9.out)) ?_
        · have r80 : ρ (.tmp 80) = .agg #[.int .i64 x3, .int .i64 y3] := (by rw [hρ]; exact hd.get 0 _ rfl rfl); have r81 : ρ (.tmp 81) = .agg #[.int .i64 x2, .int .i64 y2] := (by rw [hρ]; exact hd.get 1 _ rfl rfl); have r82 : ρ (.tmp 82) = .agg #[.int .i64 x1, .int .i64 y1] := (by rw [hρ]; exact hd.get 2 _ rfl rfl); have rf : ∀ f, ρ (.func f) = .func (.func f) #[] #[] := (by subst hρ; exact fun _ => rfl); clear hρ hd
          (go_simp; (try exact wrap_in _ (by omega) (by omega)))
        refine FSteps.cons (FStep.value (.bool true) (fun u w hd => wanted_on 40 75 true rfl rfl (congrArg some (hd.get 2 _ rfl rfl))) (fun _ _ => rfl) (fun _ => rfl) (fun u w hW hC (hd : After _ _ u w) ρ hρ => ?_)) ?_
        · have r79 : ρ (.tmp 79) = .bool true := (by rw [hρ]; exact hd.get 0 _ rfl rfl); have r83 : ρ (.tmp 83) = .bool true := (by rw [hρ]; exact hd.get 1 _ rfl rfl); clear hρ hd
          (go_simp; (try exact wrap_in _ (by omega) (by omega)))
        refine FSteps.cons (FStep.value (.bool true) (fun _ _ _ => wanted_none rfl) (fun _ _ => rfl) (fun _ => rfl) (fun u w hW hC (hd : After _ _ u w) ρ hρ => ?_)) ?_
        · have r75 : ρ (.tmp 75) = .bool true := (by rw [hρ]; exact hd.get 0 _ rfl rfl); have r84 : ρ (.tmp 84) = .bool true := (by rw [hρ]; exact hd.get 1 _ rfl rfl); have rc : ∀ v, ρ (.const v) = v := (by subst hρ; exact fun _ => rfl); clear hρ hd
          (go_simp; (try exact wrap_in _ (by omega) (by omega)))
        refine FSteps.cons (FStep.value (.bool true) (fun _ _ _ => wanted_none rfl) (fun _ _ => rfl) (fun _ => rfl) (fun u w hW hC (hd : After _ _ u w) ρ hρ => ?_)) ?_
        · have r85 : ρ (.tmp 85) = .bool true := (by rw [hρ]; exact hd.get 0 _ rfl rfl); clear hρ hd
          (go_simp; (try exact wrap_in _ (by omega) (by omega)))
        refine FSteps.cons (FStep.value (.agg #[.int .i64 x3, .int .i64 y3]) (fun u w hd => wanted_on 51 86 true rfl rfl (congrArg some (hd.get 0 _ rfl rfl))) (fun _ _ => rfl) (fun _ => rfl) (fun u w hW hC (hd : After _ _ u w) ρ hρ => ?_)) ?_
        · have r5 : ρ (.tmp 5) = .pointer (some ⟨w1.heap.size + 1 + 1, 0, none⟩) := (by subst hρ; rfl); clear hρ hd
          (go_simp; (try exact wrap_in _ (by omega) (by omega)))
        refine FSteps.cons (FStep.value (.agg #[.int .i64 x1, .int .i64 y1]) (fun u w hd => wanted_on 51 86 true rfl rfl (congrArg some (hd.get 0 _ rfl rfl))) (fun _ _ => rfl) (fun _ => rfl) (fun u w hW hC (hd : After _ _ u w) ρ hρ => ?_)) ?_
        · have r3 : ρ (.tmp 3) = .pointer (some ⟨w1.heap.size, 0, none⟩) := (by subst hρ; rfl); clear hρ hd
          (go_simp; (try exact wrap_in _ (by omega) (by omega)))
        refine FSteps.cons (FStep.value (.agg #[.int .i64 x2, .int .i64 y2]) (fun u w hd => wanted_on 51 86 true rfl rfl (congrArg some (hd.get 0 _ rfl rfl))) (fun _ _ => rfl) (fun _ => rfl) (fun u w hW hC (hd : After _ _ u w) ρ hρ => ?_)) ?_
        · have r4 : ρ (.tmp 4) = .pointer (some ⟨w1.heap.size + 1, 0, none⟩) := (by subst hρ; rfl); clear hρ hd
          (go_simp; (try exact wrap_in _ (by omega) (by omega)))
        refine FSteps.cons (FStep.call (.bool true) _ #[.agg #[.int .i64 x3, .int .i64 y3], .agg #[.int .i64 x1, .int .i64 y1], .agg #[.int .i64 x2, .int .i64 y2]] (fun u w hd => wanted_on 51 86 true rfl rfl (congrArg some (hd.get 3 _ rfl rfl))) (fun _ _ => rfl) (fun _ => rfl) (fun u w hW hC (hd : After _ _ u w) ρ hρ => ?_) (fun w => IsBetween_at _ _ _ _ _ _ _ w F8.out)) ?_
        · have r87 : ρ (.tmp 87) = .agg #[.int .i64 x3, .int .i64 y3] := (by rw [hρ]; exact hd.get 0 _ rfl rfl); have r88 : ρ (.tmp 88) = .agg #[.int .i64 x1, .int .i64 y1] := (by rw [hρ]; exact hd.get 1 _ rfl rfl); have r89 : ρ (.tmp 89) = .agg #[.int .i64 x2, .int .i64 y2] := (by rw [hρ]; exact hd.get 2 _ rfl rfl); have rf : ∀ f, ρ (.func f) = .func (.func f) #[] #[] := (by subst hρ; exact fun _ => rfl); clear hρ hd
          (go_simp; (try exact wrap_in _ (by omega) (by omega)))
        refine FSteps.cons (FStep.value (.bool false) (fun u w hd => wanted_on 51 86 true rfl rfl (congrArg some (hd.get 1 _ rfl rfl))) (fun _ _ => rfl) (fun _ => rfl) (fun u w hW hC (hd : After _ _ u w) ρ hρ => ?_)) ?_
        · have r90 : ρ (.tmp 90) = .bool true := (by rw [hρ]; exact hd.get 0 _ rfl rfl); clear hρ hd
          (go_simp; (try exact wrap_in _ (by omega) (by omega)))
        refine FSteps.cons (FStep.value (.bool false) (fun u w hd => wanted_on 51 86 true rfl rfl (congrArg some (hd.get 2 _ rfl rfl))) (fun _ _ => rfl) (fun _ => rfl) (fun u w hW hC (hd : After _ _ u w) ρ hρ => ?_)) ?_
        · have r91 : ρ (.tmp 91) = .bool false := (by rw [hρ]; exact hd.get 0 _ rfl rfl); clear hρ hd
          (go_simp; (try exact wrap_in _ (by omega) (by omega)))
        refine FSteps.cons (FStep.value (.int .i64 (t)) (fun u w hd => wanted_on 57 92 false rfl rfl (congrArg some (hd.get 0 _ rfl rfl))) (fun _ _ => rfl) (fun _ => rfl) (fun u w hW hC (hd : After _ _ u w) ρ hρ => ?_)) ?_
        · have r6 : ρ (.tmp 6) = .int .i64 (t) := (by subst hρ; rfl); clear hρ hd
          (go_simp; (try exact wrap_in _ (by omega) (by omega)))
        refine FSteps.cons (FStep.value (.bool true) (fun u w hd => wanted_on 57 92 false rfl rfl (congrArg some (hd.get 1 _ rfl rfl))) (fun _ _ => rfl) (fun _ => rfl) (fun u w hW hC (hd : After _ _ u w) ρ hρ => ?_)) ?_
        · have r93 : ρ (.tmp 93) = .int .i64 (t) := (by rw [hρ]; exact hd.get 0 _ rfl rfl); have rc : ∀ v, ρ (.const v) = v := (by subst hρ; exact fun _ => rfl); clear hρ hd
          (go_simp; (try exact wrap_in _ (by omega) (by omega)))
        refine FSteps.cons (FStep.value (.bool true) (fun u w hd => wanted_on 51 86 true rfl rfl (congrArg some (hd.get 2 _ rfl rfl))) (fun _ _ => rfl) (fun _ => rfl) (fun u w hW hC (hd : After _ _ u w) ρ hρ => ?_)) ?_
        · have r92 : ρ (.tmp 92) = .bool false := (by rw [hρ]; exact hd.get 0 _ rfl rfl); have r94 : ρ (.tmp 94) = .bool true := (by rw [hρ]; exact hd.get 1 _ rfl rfl); have rc : ∀ v, ρ (.const v) = v := (by subst hρ; exact fun _ => rfl); clear hρ hd
          (go_simp; (try exact wrap_in _ (by omega) (by omega)))
        refine FSteps.cons (FStep.value (.bool true) (fun _ _ _ => wanted_none rfl) (fun _ _ => rfl) (fun _ => rfl) (fun u w hW hC (hd : After _ _ u w) ρ hρ => ?_)) ?_
        · have r86 : ρ (.tmp 86) = .bool true := (by rw [hρ]; exact hd.get 0 _ rfl rfl); have r95 : ρ (.tmp 95) = .bool true := (by rw [hρ]; exact hd.get 1 _ rfl rfl); have rc : ∀ v, ρ (.const v) = v := (by subst hρ; exact fun _ => rfl); clear hρ hd
          (go_simp; (try exact wrap_in _ (by omega) (by omega)))
        refine FSteps.cons (FStep.value (.bool true) (fun _ _ _ => wanted_none rfl) (fun _ _ => rfl) (fun _ => rfl) (fun u w hW hC (hd : After _ _ u w) ρ hρ => ?_)) ?_
        · have r96 : ρ (.tmp 96) = .bool true := (by rw [hρ]; exact hd.get 0 _ rfl rfl); clear hρ hd
          (go_simp; (try exact wrap_in _ (by omega) (by omega)))
        refine FSteps.cons (FStep.value (.agg #[.int .i64 x1, .int .i64 y1]) (fun u w hd => wanted_on 62 97 true rfl rfl (congrArg some (hd.get 0 _ rfl rfl))) (fun _ _ => rfl) (fun _ => rfl) (fun u w hW hC (hd : After _ _ u w) ρ hρ => ?_)) ?_
        · have r3 : ρ (.tmp 3) = .pointer (some ⟨w1.heap.size, 0, none⟩) := (by subst hρ; rfl); clear hρ hd
          (go_simp; (try exact wrap_in _ (by omega) (by omega)))
        refine FSteps.cons (FStep.value (.agg #[.int .i64 x2, .int .i64 y2]) (fun u w hd => wanted_on 62 97 true rfl rfl (congrArg some (hd.get 0 _ rfl rfl))) (fun _ _ => rfl) (fun _ => rfl) (fun u w hW hC (hd : After _ _ u w) ρ hρ => ?_)) ?_
        · have r4 : ρ (.tmp 4) = .pointer (some ⟨w1.heap.size + 1, 0, none⟩) := (by subst hρ; rfl); clear hρ hd
          (go_simp; (try exact wrap_in _ (by omega) (by omega)))
        refine FSteps.cons (FStep.value (.agg #[.int .i64 x3, .int .i64 y3]) (fun u w hd => wanted_on 62 97 true rfl rfl (congrArg some (hd.get 0 _ rfl rfl))) (fun _ _ => rfl) (fun _ => rfl) (fun u w hW hC (hd : After _ _ u w) ρ hρ => ?_)) ?_
        · have r5 : ρ (.tmp 5) = .pointer (some ⟨w1.heap.size + 1 + 1, 0, none⟩) := (by subst hρ; rfl); clear hρ hd
          (go_simp; (try exact wrap_in _ (by omega) (by omega)))
        refine FSteps.cons (FStep.call (.bool (decide (ab < ac))) _ #[.agg #[.int .i64 x1, .int .i64 y1], .agg #[.int .i64 x2, .int .i64 y2], .agg #[.int .i64 x3, .int .i64 y3]] (fun u w hd => wanted_on 62 97 true rfl rfl (congrArg some (hd.get 3 _ rfl rfl))) (fun _ _ => rfl) (fun _ => rfl) (fun u w hW hC (hd : After _ _ u w) ρ hρ => ?_) (fun w => IsNearer_at _ _ _ _ _ _ _ w F10.out)) ?_
        · have r98 : ρ (.tmp 98) = .agg #[.int .i64 x1, .int .i64 y1] := (by rw [hρ]; exact hd.get 0 _ rfl rfl); have r99 : ρ (.tmp 99) = .agg #[.int .i64 x2, .int .i64 y2] := (by rw [hρ]; exact hd.get 1 _ rfl rfl); have r100 : ρ (.tmp 100) = .agg #[.int .i64 x3, .int .i64 y3] := (by rw [hρ]; exact hd.get 2 _ rfl rfl); have rf : ∀ f, ρ (.func f) = .func (.func f) #[] #[] := (by subst hρ; exact fun _ => rfl); clear hρ hd
          (go_simp; (try exact wrap_in _ (by omega) (by omega)))
        refine FSteps.cons (FStep.value (.int .i64 (ab)) (fun u w hd => wanted_on 62 97 true rfl rfl (congrArg some (hd.get 0 _ rfl rfl))) (fun _ _ => rfl) (fun _ => rfl) (fun u w hW hC (hd : After _ _ u w) ρ hρ => ?_)) ?_
        · have r7 : ρ (.tmp 7) = .int .i64 (ab) := (by subst hρ; rfl); clear hρ hd
          (go_simp; (try exact wrap_in _ (by omega) (by omega)))
        refine FSteps.cons (FStep.value (.int .i64 (ac)) (fun u w hd => wanted_on 62 97 true rfl rfl (congrArg some (hd.get 0 _ rfl rfl))) (fun _ _ => rfl) (fun _ => rfl) (fun u w hW hC (hd : After _ _ u w) ρ hρ => ?_)) ?_
        · have r8 : ρ (.tmp 8) = .int .i64 (ac) := (by subst hρ; rfl); clear hρ hd
          (go_simp; (try exact wrap_in _ (by omega) (by omega)))
        refine FSteps.cons (FStep.value (.bool (decide (ab < ac))) (fun u w hd => wanted_on 62 97 true rfl rfl (congrArg some (hd.get 2 _ rfl rfl))) (fun _ _ => rfl) (fun _ => rfl) (fun u w hW hC (hd : After _ _ u w) ρ hρ => ?_)) ?_
        · have r102 : ρ (.tmp 102) = .int .i64 (ab) := (by rw [hρ]; exact hd.get 0 _ rfl rfl); have r103 : ρ (.tmp 103) = .int .i64 (ac) := (by rw [hρ]; exact hd.get 1 _ rfl rfl); clear hρ hd
          (go_simp; (try exact wrap_in _ (by omega) (by omega)))
        refine FSteps.cons (FStep.value (.bool true) (fun u w hd => wanted_on 62 97 true rfl rfl (congrArg some (hd.get 2 _ rfl rfl))) (fun _ _ => rfl) (fun _ => rfl) (fun u w hW hC (hd : After _ _ u w) ρ hρ => ?_)) ?_
        · have r101 : ρ (.tmp 101) = .bool (decide (ab < ac)) := (by rw [hρ]; exact hd.get 0 _ rfl rfl); have r104 : ρ (.tmp 104) = .bool (decide (ab < ac)) := (by rw [hρ]; exact hd.get 1 _ rfl rfl); clear hρ hd
          (go_simp; (try exact wrap_in _ (by omega) (by omega)))
        refine FSteps.cons (FStep.value (.bool true) (fun _ _ _ => wanted_none rfl) (fun _ _ => rfl) (fun _ => rfl) (fun u w hW hC (hd : After _ _ u w) ρ hρ => ?_)) ?_
        · have r97 : ρ (.tmp 97) = .bool true := (by rw [hρ]; exact hd.get 0 _ rfl rfl); have r105 : ρ (.tmp 105) = .bool true := (by rw [hρ]; exact hd.get 1 _ rfl rfl); have rc : ∀ v, ρ (.const v) = v := (by subst hρ; exact fun _ => rfl); clear hρ hd
          (go_simp; (try exact wrap_in _ (by omega) (by omega)))
        refine FSteps.cons (FStep.value (.bool true) (fun _ _ _ => wanted_none rfl) (fun _ _ => rfl) (fun _ => rfl) (fun u w hW hC (hd : After _ _ u w) ρ hρ => ?_)) ?_
        · have r106 : ρ (.tmp 106) = .bool true := (by rw [hρ]; exact hd.get 0 _ rfl rfl); clear hρ hd
          (go_simp; (try exact wrap_in _ (by omega) (by omega)))
        exact FSteps.nil
      case hV9 => (simp only [List.forall_mem_cons]; simp [stable_is])
      case fin9 =>
        intro u w2 hW2 hC2 hd
        have e72 : u 72 = .bool true := AllV.get _ 0 72 u w2 _ hd rfl
        clear hd
        refine then_normal ?_
        go_step
        refine wp_ret ?_
        refine bodyPost_ret (results_tmp rfl _ _ _) rfl ?_
        refine ⟨congrArg Ending.returned e72, Below.trans hx1 (Below.mono (show Ext w1 _ by (repeat (first | exact Ext.refl _ | assumption | apply Ext.alloc | apply Ext.drew | apply Ext.drewN | (refine Ext.trans ?_ (by assumption))))).below hx1.size)⟩

end Go.Proofs.Ytnomiefjefopbaa
