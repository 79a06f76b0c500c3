/-
  Contracts: walls that cross or meet, in the program and in the reference.
-/
import Derived.Test.YtkdhgngpapfkdaaDoorPts
import Derived.Test.YtkdhgngpapfkdaaDoorFlow
import Derived.Test.YtkdhgngpapfkdaaDoorWall
namespace Go.Proofs.YtkdhgngpapfkdaaDoor
open Go.RowKit

def sgn (x : Int) : Int := if 0 < x then 1 else if x < 0 then -1 else 0

theorem sgn_mul_bd (a b : Int) : -1 ≤ sgn a * sgn b ∧ sgn a * sgn b ≤ 1 := by
  unfold sgn
  split <;> split <;> (try split) <;> (try split) <;> simp

theorem sgn_mul_wrap (a b : Int) : IntKind.i64.wrap (sgn a * sgn b) = sgn a * sgn b := by
  have := sgn_mul_bd a b
  exact wrap_in _ (by omega) (by omega)

theorem sign_any (n : Int) (w : World) : Calls Tryd.prog 85 #[.int .i64 n] w fun e w' => e = .returned (.int .i64 (sgn n)) ∧ w = w' := by
  go_enter Tryd.func85, Tryd.ntmps85
  go_wp2
  all_goals (go_ret; refine ⟨ret_int ?_, rfl⟩; unfold sgn; (repeat' split) <;> omega)

theorem l03Sign_any (n : Int) (w : World) : Calls Tryd.prog 99 #[.int .i64 n] w fun e w' => e = .returned (.int .i64 (sgn n)) ∧ w = w' := by
  go_enter Tryd.func99, Tryd.ntmps99
  go_wp2
  all_goals (go_ret; refine ⟨ret_int ?_, rfl⟩; unfold sgn; (repeat' split) <;> omega)

/-- do the ends of the second wall lie on two sides of the first -/
def sideB (ax ay bx by_ cx cy dx dy : Int) : Bool := decide (sgn (turnW ax ay bx by_ cx cy) * sgn (turnW ax ay bx by_ dx dy) < 0)
/-- the walls ab and cd cross -/
def crossB (ax ay bx by_ cx cy dx dy : Int) : Bool := sideB cx cy dx dy ax ay bx by_ && sideB ax ay bx by_ cx cy dx dy

set_option maxRecDepth 100000 in
set_option maxHeartbeats 1600000 in
theorem crosses_no (ax ay bx by_ cx cy dx dy : Int) (w : World) (h : sideB cx cy dx dy ax ay bx by_ = false) :
    Calls Tryd.prog 77 #[.agg #[.int .i64 ax, .int .i64 ay, .int .i64 bx, .int .i64 by_], .agg #[.int .i64 cx, .int .i64 cy, .int .i64 dx, .int .i64 dy]] w fun e w' => e = .returned (.bool false) ∧ Ext w w' := by
  have HB : Hid (∀ w', Ext ((w.alloc (.cells #[.int .i64 ax, .int .i64 ay, .int .i64 bx, .int .i64 by_] 57)).alloc (.cells #[.int .i64 cx, .int .i64 cy, .int .i64 dx, .int .i64 dy] 57)) w' → w'.cell? ⟨w.heap.size, 0, none⟩ = some (.int .i64 ax) ∧ w'.cell? ⟨w.heap.size, 1, none⟩ = some (.int .i64 ay) ∧ w'.cell? ⟨w.heap.size, 2, none⟩ = some (.int .i64 bx) ∧ w'.cell? ⟨w.heap.size, 3, none⟩ = some (.int .i64 by_) ∧ w'.cell? ⟨w.heap.size + 1, 0, none⟩ = some (.int .i64 cx) ∧ w'.cell? ⟨w.heap.size + 1, 1, none⟩ = some (.int .i64 cy) ∧ w'.cell? ⟨w.heap.size + 1, 2, none⟩ = some (.int .i64 dx) ∧ w'.cell? ⟨w.heap.size + 1, 3, none⟩ = some (.int .i64 dy)) := fun w' hx => by
    and_intros <;> (((first | rw [hx.cells _ _ (by first | (simp; done) | (simp; omega))] | rw [hx.frozens _ _ (by first | (simp; done) | (simp; omega))]); (first | (simp [go_sem]; done) | (simp [go_sem, World.cell?_alloc_past]; done) | (simp [go_sem, World.frozen?]; done))))
  unfold sideB at h
  have q1 := sgn_mul_wrap (turnW cx cy dx dy ax ay) (turnW cx cy dx dy bx by_)
  go_enter Tryd.func77, Tryd.ntmps77
  go_wp2
  refine wp_flow (by kernel_rfl) (by kernel_rfl) (fun u => ⟨#[_, _, _, _, u 38, u 0, u 1, u 2, u 3, u 4, u 5, u 6, u 7, u 8, u 9, u 10, u 11, u 12, u 13, u 14, u 15, u 16, u 17, u 18, u 19, u 20, u 21, u 22, u 23, u 24, u 25, u 26, u 27, u 28, u 29, u 30, u 31, u 32, u 33, u 34, u 35, u 36, u 37], _⟩) (fun i => List.getD [_, _, _, _, _, _, _, _, _, _, _, _, _, _, _, _, _, _, _, _, _, _, _, _, _, _, _, _, _, _, _, _, _, _, _, _, _, _, _] i undef) [is ?v14_0, is ?v14_1, is ?v14_2, is ?v14_3, is ?v14_4, is ?v14_5, is ?v14_6, is ?v14_7, is ?v14_8, is ?v14_9, is ?v14_10, is ?v14_11, is ?v14_12, is ?v14_13, is ?v14_14, is ?v14_15, is ?v14_16, is ?v14_17, is ?v14_18, is ?v14_19, is ?v14_20, is ?v14_21, is ?v14_22, is ?v14_23, is ?v14_24, is ?v14_25, is ?v14_26, is ?v14_27, is ?v14_28, is ?v14_29, is ?v14_30, is ?v14_31, is ?v14_32, is ?v14_33, is ?v14_34, is ?v14_35, is ?v14_36, is ?v14_37, is ?v14_38] (fun w' => w'.cell? ⟨w.heap.size, 0, none⟩ = some (.int .i64 ax) ∧ w'.cell? ⟨w.heap.size, 1, none⟩ = some (.int .i64 ay) ∧ w'.cell? ⟨w.heap.size, 2, none⟩ = some (.int .i64 bx) ∧ w'.cell? ⟨w.heap.size, 3, none⟩ = some (.int .i64 by_) ∧ w'.cell? ⟨w.heap.size + 1, 0, none⟩ = some (.int .i64 cx) ∧ w'.cell? ⟨w.heap.size + 1, 1, none⟩ = some (.int .i64 cy) ∧ w'.cell? ⟨w.heap.size + 1, 2, none⟩ = some (.int .i64 dx) ∧ w'.cell? ⟨w.heap.size + 1, 3, none⟩ = some (.int .i64 dy)) _ rfl ?hC14 ?hs14 ?hV14 ?fin14
  case hC14 => exact HB.out
  case hs14 =>
    repeat' (first
      | exact FSteps.nil
      | refine FSteps.cons ?_ ?_
      | (refine FStep.off_ _ _ _ rfl rfl ?_ (fun _ => rfl) ?_; (focus (intro u w hd; simp [vOf, is, Region.binds] at hd; simp [hd])); (intro w'; exact rfl); done)
      | ((first
          | refine FStep.plain rfl ?_
          | (refine FStep.on_ _ _ _ rfl rfl ?_ ?_; (focus (intro u w hd; simp [vOf, is, Region.binds] at hd; simp [hd]))))
         intro u w hW hC hd K hK
         (try simp [vOf, is, Region.binds] at hd)
         simp only [upd, Nat.reduceEqDiff, if_true, if_false] at hK
         (try simp only [hd] at hK)
         go_simp
         (first
           | (refine hK _ _ ?_ ?_; (first | exact rfl); (repeat (first | exact Ext.refl _ | assumption | apply Ext.alloc | apply Ext.drew | apply Ext.drewN | (refine Ext.trans ?_ (by assumption)))))
           | (go_at_call 59; refine (turn_any _ _ _ _ _ _ _).mono ?_; rintro e w1 ⟨rfl, hb⟩; (try go_simp); refine hK _ _ ?_ ?_; (first | exact rfl); (repeat (first | exact Ext.refl _ | assumption | apply Ext.alloc | apply Ext.drew | apply Ext.drewN | (refine Ext.trans ?_ (by assumption)))))
           | (go_at_call 85; refine (sign_any _ _).mono ?_; rintro e w1 ⟨rfl, rfl⟩; (try go_simp); refine hK _ _ ?_ ?_; exact rfl; exact Ext.refl _))))
  case hV14 => (simp only [List.forall_mem_cons]; simp [stable_is])
  case fin14 =>
    intro u w2 hW2 hC2 hd
    simp only [AllV, is] at hd
    simp only [hd]
    clear hd
    go_wp2
    go_ret
    exact ⟨rfl, by (repeat (first | exact Ext.refl _ | assumption | apply Ext.alloc | apply Ext.drew | apply Ext.drewN | (refine Ext.trans ?_ (by assumption))))⟩

set_option maxRecDepth 100000 in
set_option maxHeartbeats 1600000 in
theorem crosses_yes (ax ay bx by_ cx cy dx dy : Int) (w : World) (h : sideB cx cy dx dy ax ay bx by_ = true) :
    Calls Tryd.prog 77 #[.agg #[.int .i64 ax, .int .i64 ay, .int .i64 bx, .int .i64 by_], .agg #[.int .i64 cx, .int .i64 cy, .int .i64 dx, .int .i64 dy]] w fun e w' => e = .returned (.bool (sideB ax ay bx by_ cx cy dx dy)) ∧ Ext w w' := by
  have HB : Hid (∀ w', Ext ((w.alloc (.cells #[.int .i64 ax, .int .i64 ay, .int .i64 bx, .int .i64 by_] 57)).alloc (.cells #[.int .i64 cx, .int .i64 cy, .int .i64 dx, .int .i64 dy] 57)) w' → w'.cell? ⟨w.heap.size, 0, none⟩ = some (.int .i64 ax) ∧ w'.cell? ⟨w.heap.size, 1, none⟩ = some (.int .i64 ay) ∧ w'.cell? ⟨w.heap.size, 2, none⟩ = some (.int .i64 bx) ∧ w'.cell? ⟨w.heap.size, 3, none⟩ = some (.int .i64 by_) ∧ w'.cell? ⟨w.heap.size + 1, 0, none⟩ = some (.int .i64 cx) ∧ w'.cell? ⟨w.heap.size + 1, 1, none⟩ = some (.int .i64 cy) ∧ w'.cell? ⟨w.heap.size + 1, 2, none⟩ = some (.int .i64 dx) ∧ w'.cell? ⟨w.heap.size + 1, 3, none⟩ = some (.int .i64 dy)) := fun w' hx => by
    and_intros <;> (((first | rw [hx.cells _ _ (by first | (simp; done) | (simp; omega))] | rw [hx.frozens _ _ (by first | (simp; done) | (simp; omega))]); (first | (simp [go_sem]; done) | (simp [go_sem, World.cell?_alloc_past]; done) | (simp [go_sem, World.frozen?]; done))))
  unfold sideB at h
  have q1 := sgn_mul_wrap (turnW cx cy dx dy ax ay) (turnW cx cy dx dy bx by_)
  have q2 := sgn_mul_wrap (turnW ax ay bx by_ cx cy) (turnW ax ay bx by_ dx dy)
  go_enter Tryd.func77, Tryd.ntmps77
  go_wp2
  refine wp_flow (by kernel_rfl) (by kernel_rfl) (fun u => ⟨#[_, _, _, _, u 38, u 0, u 1, u 2, u 3, u 4, u 5, u 6, u 7, u 8, u 9, u 10, u 11, u 12, u 13, u 14, u 15, u 16, u 17, u 18, u 19, u 20, u 21, u 22, u 23, u 24, u 25, u 26, u 27, u 28, u 29, u 30, u 31, u 32, u 33, u 34, u 35, u 36, u 37], _⟩) (fun i => List.getD [_, _, _, _, _, _, _, _, _, _, _, _, _, _, _, _, _, _, _, _, _, _, _, _, _, _, _, _, _, _, _, _, _, _, _, _, _, _, _] i undef) [is ?v15_0, is ?v15_1, is ?v15_2, is ?v15_3, is ?v15_4, is ?v15_5, is ?v15_6, is ?v15_7, is ?v15_8, is ?v15_9, is ?v15_10, is ?v15_11, is ?v15_12, is ?v15_13, is ?v15_14, is ?v15_15, is ?v15_16, is ?v15_17, is ?v15_18, is ?v15_19, is ?v15_20, is ?v15_21, is ?v15_22, is ?v15_23, is ?v15_24, is ?v15_25, is ?v15_26, is ?v15_27, is ?v15_28, is ?v15_29, is ?v15_30, is ?v15_31, is ?v15_32, is ?v15_33, is ?v15_34, is ?v15_35, is ?v15_36, is ?v15_37, is ?v15_38] (fun w' => w'.cell? ⟨w.heap.size, 0, none⟩ = some (.int .i64 ax) ∧ w'.cell? ⟨w.heap.size, 1, none⟩ = some (.int .i64 ay) ∧ w'.cell? ⟨w.heap.size, 2, none⟩ = some (.int .i64 bx) ∧ w'.cell? ⟨w.heap.size, 3, none⟩ = some (.int .i64 by_) ∧ w'.cell? ⟨w.heap.size + 1, 0, none⟩ = some (.int .i64 cx) ∧ w'.cell? ⟨w.heap.size + 1, 1, none⟩ = some (.int .i64 cy) ∧ w'.cell? ⟨w.heap.size + 1, 2, none⟩ = some (.int .i64 dx) ∧ w'.cell? ⟨w.heap.size + 1, 3, none⟩ = some (.int .i64 dy)) _ rfl ?hC15 ?hs15 ?hV15 ?fin15
  case hC15 => exact HB.out
  case hs15 =>
    repeat' (first
      | exact FSteps.nil
      | refine FSteps.cons ?_ ?_
      | (refine FStep.off_ _ _ _ rfl rfl ?_ (fun _ => rfl) ?_; (focus (intro u w hd; simp [vOf, is, Region.binds] at hd; simp [hd])); (intro w'; exact rfl); done)
      | ((first
          | refine FStep.plain rfl ?_
          | (refine FStep.on_ _ _ _ rfl rfl ?_ ?_; (focus (intro u w hd; simp [vOf, is, Region.binds] at hd; simp [hd]))))
         intro u w hW hC hd K hK
         (try simp [vOf, is, Region.binds] at hd)
         simp only [upd, Nat.reduceEqDiff, if_true, if_false] at hK
         (try simp only [hd] at hK)
         go_simp
         (first
           | (refine hK _ _ ?_ ?_; (first | exact rfl); (repeat (first | exact Ext.refl _ | assumption | apply Ext.alloc | apply Ext.drew | apply Ext.drewN | (refine Ext.trans ?_ (by assumption)))))
           | (go_at_call 59; refine (turn_any _ _ _ _ _ _ _).mono ?_; rintro e w1 ⟨rfl, hb⟩; (try go_simp); refine hK _ _ ?_ ?_; (first | exact rfl); (repeat (first | exact Ext.refl _ | assumption | apply Ext.alloc | apply Ext.drew | apply Ext.drewN | (refine Ext.trans ?_ (by assumption)))))
           | (go_at_call 85; refine (sign_any _ _).mono ?_; rintro e w1 ⟨rfl, rfl⟩; (try go_simp); refine hK _ _ ?_ ?_; exact rfl; exact Ext.refl _))))
  case hV15 => (simp only [List.forall_mem_cons]; simp [stable_is])
  case fin15 =>
    intro u w2 hW2 hC2 hd
    simp only [AllV, is] at hd
    simp only [hd]
    clear hd
    go_wp2
    go_ret
    exact ⟨rfl, by (repeat (first | exact Ext.refl _ | assumption | apply Ext.alloc | apply Ext.drew | apply Ext.drewN | (refine Ext.trans ?_ (by assumption))))⟩

theorem crosses_any (ax ay bx by_ cx cy dx dy : Int) (w : World) :
    Calls Tryd.prog 77 #[.agg #[.int .i64 ax, .int .i64 ay, .int .i64 bx, .int .i64 by_], .agg #[.int .i64 cx, .int .i64 cy, .int .i64 dx, .int .i64 dy]] w fun e w' => e = .returned (.bool (crossB ax ay bx by_ cx cy dx dy)) ∧ Ext w w' := by
  unfold crossB
  cases h : sideB cx cy dx dy ax ay bx by_ with
  | false => exact crosses_no _ _ _ _ _ _ _ _ _ h
  | true => exact crosses_yes _ _ _ _ _ _ _ _ _ h

set_option maxRecDepth 100000 in
set_option maxHeartbeats 1600000 in
theorem l03Cross_no (ax ay bx by_ cx cy dx dy : Int) (w : World) (h : sideB ax ay bx by_ cx cy dx dy = false) :
    Calls Tryd.prog 90 #[.agg #[.int .i64 ax, .int .i64 ay], .agg #[.int .i64 bx, .int .i64 by_], .agg #[.int .i64 cx, .int .i64 cy], .agg #[.int .i64 dx, .int .i64 dy]] w fun e w' => e = .returned (.bool false) ∧ Ext w w' := by
  have HB : Hid (∀ w', Ext ((((w.alloc (.cells #[.int .i64 ax, .int .i64 ay] 27)).alloc (.cells #[.int .i64 bx, .int .i64 by_] 27)).alloc (.cells #[.int .i64 cx, .int .i64 cy] 27)).alloc (.cells #[.int .i64 dx, .int .i64 dy] 27)) w' → w'.cell? ⟨w.heap.size, 0, none⟩ = some (.int .i64 ax) ∧ w'.cell? ⟨w.heap.size, 1, none⟩ = some (.int .i64 ay) ∧ w'.cell? ⟨w.heap.size + 1, 0, none⟩ = some (.int .i64 bx) ∧ w'.cell? ⟨w.heap.size + 1, 1, none⟩ = some (.int .i64 by_) ∧ w'.cell? ⟨w.heap.size + 1 + 1, 0, none⟩ = some (.int .i64 cx) ∧ w'.cell? ⟨w.heap.size + 1 + 1, 1, none⟩ = some (.int .i64 cy) ∧ w'.cell? ⟨w.heap.size + 1 + 1 + 1, 0, none⟩ = some (.int .i64 dx) ∧ w'.cell? ⟨w.heap.size + 1 + 1 + 1, 1, none⟩ = some (.int .i64 dy)) := fun w' hx => by
    and_intros <;> (((first | rw [hx.cells _ _ (by first | (simp; done) | (simp; omega))] | rw [hx.frozens _ _ (by first | (simp; done) | (simp; omega))]); (first | (simp [go_sem]; done) | (simp [go_sem, World.cell?_alloc_past]; done) | (simp [go_sem, World.frozen?]; done))))
  unfold sideB at h
  have q2 := sgn_mul_wrap (turnW ax ay bx by_ cx cy) (turnW ax ay bx by_ dx dy)
  go_enter Tryd.func90, Tryd.ntmps90
  go_wp2
  refine wp_flow (by kernel_rfl) (by kernel_rfl) (fun u => ⟨#[_, _, _, _, _, _, _, _, u 26, u 0, u 1, u 2, u 3, u 4, u 5, u 6, u 7, u 8, u 9, u 10, u 11, u 12, u 13, u 14, u 15, u 16, u 17, u 18, u 19, u 20, u 21, u 22, u 23, u 24, u 25], _⟩) (fun i => List.getD [_, _, _, _, _, _, _, _, _, _, _, _, _, _, _, _, _, _, _, _, _, _, _, _, _, _, _] i undef) [is ?v16_0, is ?v16_1, is ?v16_2, is ?v16_3, is ?v16_4, is ?v16_5, is ?v16_6, is ?v16_7, is ?v16_8, is ?v16_9, is ?v16_10, is ?v16_11, is ?v16_12, is ?v16_13, is ?v16_14, is ?v16_15, is ?v16_16, is ?v16_17, is ?v16_18, is ?v16_19, is ?v16_20, is ?v16_21, is ?v16_22, is ?v16_23, is ?v16_24, is ?v16_25, is ?v16_26] (fun w' => w'.cell? ⟨w.heap.size, 0, none⟩ = some (.int .i64 ax) ∧ w'.cell? ⟨w.heap.size, 1, none⟩ = some (.int .i64 ay) ∧ w'.cell? ⟨w.heap.size + 1, 0, none⟩ = some (.int .i64 bx) ∧ w'.cell? ⟨w.heap.size + 1, 1, none⟩ = some (.int .i64 by_) ∧ w'.cell? ⟨w.heap.size + 1 + 1, 0, none⟩ = some (.int .i64 cx) ∧ w'.cell? ⟨w.heap.size + 1 + 1, 1, none⟩ = some (.int .i64 cy) ∧ w'.cell? ⟨w.heap.size + 1 + 1 + 1, 0, none⟩ = some (.int .i64 dx) ∧ w'.cell? ⟨w.heap.size + 1 + 1 + 1, 1, none⟩ = some (.int .i64 dy)) _ rfl ?hC16 ?hs16 ?hV16 ?fin16
  case hC16 => exact HB.out
  case hs16 =>
    repeat' (first
      | exact FSteps.nil
      | refine FSteps.cons ?_ ?_
      | (refine FStep.off_ _ _ _ rfl rfl ?_ (fun _ => rfl) ?_; (focus (intro u w hd; simp [vOf, is, Region.binds] at hd; simp [hd])); (intro w'; exact rfl); done)
      | ((first
          | refine FStep.plain rfl ?_
          | (refine FStep.on_ _ _ _ rfl rfl ?_ ?_; (focus (intro u w hd; simp [vOf, is, Region.binds] at hd; simp [hd]))))
         intro u w hW hC hd K hK
         (try simp [vOf, is, Region.binds] at hd)
         simp only [upd, Nat.reduceEqDiff, if_true, if_false] at hK
         (try simp only [hd] at hK)
         go_simp
         (first
           | (refine hK _ _ ?_ ?_; (first | exact rfl); (repeat (first | exact Ext.refl _ | assumption | apply Ext.alloc | apply Ext.drew | apply Ext.drewN | (refine Ext.trans ?_ (by assumption)))))
           | (go_at_call 67; refine (sturn_any _ _ _ _ _ _ _).mono ?_; rintro e w1 ⟨rfl, hb⟩; (try go_simp); refine hK _ _ ?_ ?_; (first | exact rfl); (repeat (first | exact Ext.refl _ | assumption | apply Ext.alloc | apply Ext.drew | apply Ext.drewN | (refine Ext.trans ?_ (by assumption)))))
           | (go_at_call 99; refine (l03Sign_any _ _).mono ?_; rintro e w1 ⟨rfl, rfl⟩; (try go_simp); refine hK _ _ ?_ ?_; exact rfl; exact Ext.refl _))))
  case hV16 => (simp only [List.forall_mem_cons]; simp [stable_is])
  case fin16 =>
    intro u w2 hW2 hC2 hd
    simp only [AllV, is] at hd
    simp only [hd]
    clear hd
    go_wp2
    go_ret
    exact ⟨rfl, by (repeat (first | exact Ext.refl _ | assumption | apply Ext.alloc | apply Ext.drew | apply Ext.drewN | (refine Ext.trans ?_ (by assumption))))⟩

set_option maxRecDepth 100000 in
set_option maxHeartbeats 1600000 in
theorem l03Cross_yes (ax ay bx by_ cx cy dx dy : Int) (w : World) (h : sideB ax ay bx by_ cx cy dx dy = true) :
    Calls Tryd.prog 90 #[.agg #[.int .i64 ax, .int .i64 ay], .agg #[.int .i64 bx, .int .i64 by_], .agg #[.int .i64 cx, .int .i64 cy], .agg #[.int .i64 dx, .int .i64 dy]] w fun e w' => e = .returned (.bool (sideB cx cy dx dy ax ay bx by_)) ∧ Ext w w' := by
  have HB : Hid (∀ w', Ext ((((w.alloc (.cells #[.int .i64 ax, .int .i64 ay] 27)).alloc (.cells #[.int .i64 bx, .int .i64 by_] 27)).alloc (.cells #[.int .i64 cx, .int .i64 cy] 27)).alloc (.cells #[.int .i64 dx, .int .i64 dy] 27)) w' → w'.cell? ⟨w.heap.size, 0, none⟩ = some (.int .i64 ax) ∧ w'.cell? ⟨w.heap.size, 1, none⟩ = some (.int .i64 ay) ∧ w'.cell? ⟨w.heap.size + 1, 0, none⟩ = some (.int .i64 bx) ∧ w'.cell? ⟨w.heap.size + 1, 1, none⟩ = some (.int .i64 by_) ∧ w'.cell? ⟨w.heap.size + 1 + 1, 0, none⟩ = some (.int .i64 cx) ∧ w'.cell? ⟨w.heap.size + 1 + 1, 1, none⟩ = some (.int .i64 cy) ∧ w'.cell? ⟨w.heap.size + 1 + 1 + 1, 0, none⟩ = some (.int .i64 dx) ∧ w'.cell? ⟨w.heap.size + 1 + 1 + 1, 1, none⟩ = some (.int .i64 dy)) := fun w' hx => by
    and_intros <;> (((first | rw [hx.cells _ _ (by first | (simp; done) | (simp; omega))] | rw [hx.frozens _ _ (by first | (simp; done) | (simp; omega))]); (first | (simp [go_sem]; done) | (simp [go_sem, World.cell?_alloc_past]; done) | (simp [go_sem, World.frozen?]; done))))
  unfold sideB at h
  have q1 := sgn_mul_wrap (turnW cx cy dx dy ax ay) (turnW cx cy dx dy bx by_)
  have q2 := sgn_mul_wrap (turnW ax ay bx by_ cx cy) (turnW ax ay bx by_ dx dy)
  go_enter Tryd.func90, Tryd.ntmps90
  go_wp2
  refine wp_flow (by kernel_rfl) (by kernel_rfl) (fun u => ⟨#[_, _, _, _, _, _, _, _, u 26, u 0, u 1, u 2, u 3, u 4, u 5, u 6, u 7, u 8, u 9, u 10, u 11, u 12, u 13, u 14, u 15, u 16, u 17, u 18, u 19, u 20, u 21, u 22, u 23, u 24, u 25], _⟩) (fun i => List.getD [_, _, _, _, _, _, _, _, _, _, _, _, _, _, _, _, _, _, _, _, _, _, _, _, _, _, _] i undef) [is ?v17_0, is ?v17_1, is ?v17_2, is ?v17_3, is ?v17_4, is ?v17_5, is ?v17_6, is ?v17_7, is ?v17_8, is ?v17_9, is ?v17_10, is ?v17_11, is ?v17_12, is ?v17_13, is ?v17_14, is ?v17_15, is ?v17_16, is ?v17_17, is ?v17_18, is ?v17_19, is ?v17_20, is ?v17_21, is ?v17_22, is ?v17_23, is ?v17_24, is ?v17_25, is ?v17_26] (fun w' => w'.cell? ⟨w.heap.size, 0, none⟩ = some (.int .i64 ax) ∧ w'.cell? ⟨w.heap.size, 1, none⟩ = some (.int .i64 ay) ∧ w'.cell? ⟨w.heap.size + 1, 0, none⟩ = some (.int .i64 bx) ∧ w'.cell? ⟨w.heap.size + 1, 1, none⟩ = some (.int .i64 by_) ∧ w'.cell? ⟨w.heap.size + 1 + 1, 0, none⟩ = some (.int .i64 cx) ∧ w'.cell? ⟨w.heap.size + 1 + 1, 1, none⟩ = some (.int .i64 cy) ∧ w'.cell? ⟨w.heap.size + 1 + 1 + 1, 0, none⟩ = some (.int .i64 dx) ∧ w'.cell? ⟨w.heap.size + 1 + 1 + 1, 1, none⟩ = some (.int .i64 dy)) _ rfl ?hC17 ?hs17 ?hV17 ?fin17
  case hC17 => exact HB.out
  case hs17 =>
    repeat' (first
      | exact FSteps.nil
      | refine FSteps.cons ?_ ?_
      | (refine FStep.off_ _ _ _ rfl rfl ?_ (fun _ => rfl) ?_; (focus (intro u w hd; simp [vOf, is, Region.binds] at hd; simp [hd])); (intro w'; exact rfl); done)
      | ((first
          | refine FStep.plain rfl ?_
          | (refine FStep.on_ _ _ _ rfl rfl ?_ ?_; (focus (intro u w hd; simp [vOf, is, Region.binds] at hd; simp [hd]))))
         intro u w hW hC hd K hK
         (try simp [vOf, is, Region.binds] at hd)
         simp only [upd, Nat.reduceEqDiff, if_true, if_false] at hK
         (try simp only [hd] at hK)
         go_simp
         (first
           | (refine hK _ _ ?_ ?_; (first | exact rfl); (repeat (first | exact Ext.refl _ | assumption | apply Ext.alloc | apply Ext.drew | apply Ext.drewN | (refine Ext.trans ?_ (by assumption)))))
           | (go_at_call 67; refine (sturn_any _ _ _ _ _ _ _).mono ?_; rintro e w1 ⟨rfl, hb⟩; (try go_simp); refine hK _ _ ?_ ?_; (first | exact rfl); (repeat (first | exact Ext.refl _ | assumption | apply Ext.alloc | apply Ext.drew | apply Ext.drewN | (refine Ext.trans ?_ (by assumption)))))
           | (go_at_call 99; refine (l03Sign_any _ _).mono ?_; rintro e w1 ⟨rfl, rfl⟩; (try go_simp); refine hK _ _ ?_ ?_; exact rfl; exact Ext.refl _))))
  case hV17 => (simp only [List.forall_mem_cons]; simp [stable_is])
  case fin17 =>
    intro u w2 hW2 hC2 hd
    simp only [AllV, is] at hd
    simp only [hd]
    clear hd
    go_wp2
    go_ret
    exact ⟨rfl, by (repeat (first | exact Ext.refl _ | assumption | apply Ext.alloc | apply Ext.drew | apply Ext.drewN | (refine Ext.trans ?_ (by assumption))))⟩

theorem l03Cross_any (ax ay bx by_ cx cy dx dy : Int) (w : World) :
    Calls Tryd.prog 90 #[.agg #[.int .i64 ax, .int .i64 ay], .agg #[.int .i64 bx, .int .i64 by_], .agg #[.int .i64 cx, .int .i64 cy], .agg #[.int .i64 dx, .int .i64 dy]] w fun e w' => e = .returned (.bool (crossB ax ay bx by_ cx cy dx dy)) ∧ Ext w w' := by
  unfold crossB
  rw [Bool.and_comm]
  cases h : sideB ax ay bx by_ cx cy dx dy with
  | false => exact l03Cross_no _ _ _ _ _ _ _ _ _ h
  | true => exact l03Cross_yes _ _ _ _ _ _ _ _ _ h

end Go.Proofs.YtkdhgngpapfkdaaDoor
