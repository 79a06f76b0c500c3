/-
  Contracts: walls that cross or meet, in the program and in the reference.
-/
import Derived.Test.YtnalongggkmllaaPts
import Derived.Test.YtnalongggkmllaaFlow
import Derived.Test.YtnalongggkmllaaWall
namespace Go.Proofs.Ytnalongggkmllaa
open Go.RowKit

def sgn (x : Int) : Int := if 0 < x then 1 else if x < 0 then -1 else 0

theorem sgn_mul_bd (a b : Int) : -1 ≤ sgn a * sgn b ∧ sgn a * sgn b ≤ 1 := by
  unfold sgn
  split <;> split <;> (try split) <;> (try split) <;> simp

theorem sgn_mul_wrap (a b : Int) : IntKind.i64.wrap (sgn a * sgn b) = sgn a * sgn b := by
  have := sgn_mul_bd a b
  exact wrap_in _ (by omega) (by omega)

theorem sign_any (n : Int) (w : World) : Calls Try.prog 66 #[.int .i64 n] w fun e w' => e = .returned (.int .i64 (sgn n)) ∧ w = w' := by
  go_enter Try.func66, Try.ntmps66
  go_wp2
  all_goals (go_ret; refine ⟨ret_int ?_, rfl⟩; unfold sgn; (repeat' split) <;> omega)

theorem l03Sign_any (n : Int) (w : World) : Calls Try.prog 74 #[.int .i64 n] w fun e w' => e = .returned (.int .i64 (sgn n)) ∧ w = w' := by
  go_enter Try.func74, Try.ntmps74
  go_wp2
  all_goals (go_ret; refine ⟨ret_int ?_, rfl⟩; unfold sgn; (repeat' split) <;> omega)

/-- do the ends of the second wall lie on two sides of the first -/
def sideB (ax ay bx by_ cx cy dx dy : Int) : Bool := decide (sgn (turnW ax ay bx by_ cx cy) * sgn (turnW ax ay bx by_ dx dy) < 0)
/-- the walls ab and cd cross -/
def crossB (ax ay bx by_ cx cy dx dy : Int) : Bool := sideB cx cy dx dy ax ay bx by_ && sideB ax ay bx by_ cx cy dx dy

set_option maxRecDepth 100000 in
set_option maxHeartbeats 1600000 in
theorem crosses_no (ax ay bx by_ cx cy dx dy : Int) (w : World) (h : sideB cx cy dx dy ax ay bx by_ = false) :
    Calls Try.prog 44 #[.agg #[.int .i64 ax, .int .i64 ay, .int .i64 bx, .int .i64 by_], .agg #[.int .i64 cx, .int .i64 cy, .int .i64 dx, .int .i64 dy]] w fun e w' => e = .returned (.bool false) ∧ Ext w w' := by
  have HB : Hid (∀ w', Ext ((w.alloc (.cells #[.int .i64 ax, .int .i64 ay, .int .i64 bx, .int .i64 by_] 58)).alloc (.cells #[.int .i64 cx, .int .i64 cy, .int .i64 dx, .int .i64 dy] 58)) w' → w'.cell? ⟨w.heap.size, 0, none⟩ = some (.int .i64 ax) ∧ w'.cell? ⟨w.heap.size, 1, none⟩ = some (.int .i64 ay) ∧ w'.cell? ⟨w.heap.size, 2, none⟩ = some (.int .i64 bx) ∧ w'.cell? ⟨w.heap.size, 3, none⟩ = some (.int .i64 by_) ∧ w'.cell? ⟨w.heap.size + 1, 0, none⟩ = some (.int .i64 cx) ∧ w'.cell? ⟨w.heap.size + 1, 1, none⟩ = some (.int .i64 cy) ∧ w'.cell? ⟨w.heap.size + 1, 2, none⟩ = some (.int .i64 dx) ∧ w'.cell? ⟨w.heap.size + 1, 3, none⟩ = some (.int .i64 dy)) := fun w' hx => by
    and_intros <;> (((first | rw [hx.cells _ _ (by first | (simp; done) | (simp; omega))] | rw [hx.frozens _ _ (by first | (simp; done) | (simp; omega))]); (first | (simp [go_sem]; done) | (simp [go_sem, World.cell?_alloc_past]; done) | (simp [go_sem, World.frozen?]; done))))
  unfold sideB at h
  have q1 := sgn_mul_wrap (turnW cx cy dx dy ax ay) (turnW cx cy dx dy bx by_)
  go_enter Try.func44, Try.ntmps44
  go_wp2
  refine wp_flow (by kernel_rfl) (by kernel_rfl) (fun u => ⟨#[_, _, _, _, u 38, u 0, u 1, u 2, u 3, u 4, u 5, u 6, u 7, u 8, u 9, u 10, u 11, u 12, u 13, u 14, u 15, u 16, u 17, u 18, u 19, u 20, u 21, u 22, u 23, u 24, u 25, u 26, u 27, u 28, u 29, u 30, u 31, u 32, u 33, u 34, u 35, u 36, u 37], _⟩) (fun i => List.getD [_, _, _, _, _, _, _, _, _, _, _, _, _, _, _, _, _, _, _, _, _, _, _, _, _, _, _, _, _, _, _, _, _, _, _, _, _, _, _] i undef) [is ?v10_0, is ?v10_1, is ?v10_2, is ?v10_3, is ?v10_4, is ?v10_5, is ?v10_6, is ?v10_7, is ?v10_8, is ?v10_9, is ?v10_10, is ?v10_11, is ?v10_12, is ?v10_13, is ?v10_14, is ?v10_15, is ?v10_16, is ?v10_17, is ?v10_18, is ?v10_19, is ?v10_20, is ?v10_21, is ?v10_22, is ?v10_23, is ?v10_24, is ?v10_25, is ?v10_26, is ?v10_27, is ?v10_28, is ?v10_29, is ?v10_30, is ?v10_31, is ?v10_32, is ?v10_33, is ?v10_34, is ?v10_35, is ?v10_36, is ?v10_37, is ?v10_38] (fun w' => w'.cell? ⟨w.heap.size, 0, none⟩ = some (.int .i64 ax) ∧ w'.cell? ⟨w.heap.size, 1, none⟩ = some (.int .i64 ay) ∧ w'.cell? ⟨w.heap.size, 2, none⟩ = some (.int .i64 bx) ∧ w'.cell? ⟨w.heap.size, 3, none⟩ = some (.int .i64 by_) ∧ w'.cell? ⟨w.heap.size + 1, 0, none⟩ = some (.int .i64 cx) ∧ w'.cell? ⟨w.heap.size + 1, 1, none⟩ = some (.int .i64 cy) ∧ w'.cell? ⟨w.heap.size + 1, 2, none⟩ = some (.int .i64 dx) ∧ w'.cell? ⟨w.heap.size + 1, 3, none⟩ = some (.int .i64 dy)) _ rfl ?hC10 ?hs10 ?hV10 ?fin10
  case hC10 => exact HB.out
  case hs10 =>
    repeat' (first
      | exact FSteps.nil
      | refine FSteps.cons ?_ ?_
      | (refine FStep.off_ _ _ _ rfl rfl ?_ (fun _ => rfl) ?_; (focus (intro u w hd; simp [vOf, is, Region.binds] at hd; simp [hd])); (intro w'; exact rfl); done)
      | ((first
          | refine FStep.plain rfl ?_
          | (refine FStep.on_ _ _ _ rfl rfl ?_ ?_; (focus (intro u w hd; simp [vOf, is, Region.binds] at hd; simp [hd]))))
         intro u w hW hC hd K hK
         (try simp [vOf, is, Region.binds] at hd)
         simp only [upd, Nat.reduceEqDiff, if_true, if_false] at hK
         (try simp only [hd] at hK)
         go_simp
         (first
           | (refine hK _ _ ?_ ?_; (first | exact rfl); (repeat (first | exact Ext.refl _ | assumption | apply Ext.alloc | apply Ext.drew | apply Ext.drewN | (refine Ext.trans ?_ (by assumption)))))
           | (go_at_call 58; refine (turn_any _ _ _ _ _ _ _).mono ?_; rintro e w1 ⟨rfl, hb⟩; (try go_simp); refine hK _ _ ?_ ?_; (first | exact rfl); (repeat (first | exact Ext.refl _ | assumption | apply Ext.alloc | apply Ext.drew | apply Ext.drewN | (refine Ext.trans ?_ (by assumption)))))
           | (go_at_call 66; refine (sign_any _ _).mono ?_; rintro e w1 ⟨rfl, rfl⟩; (try go_simp); refine hK _ _ ?_ ?_; exact rfl; exact Ext.refl _))))
  case hV10 => (simp only [List.forall_mem_cons]; simp [stable_is])
  case fin10 =>
    intro u w2 hW2 hC2 hd
    simp only [AllV, is] at hd
    simp only [hd]
    clear hd
    go_wp2
    go_ret
    exact ⟨rfl, by (repeat (first | exact Ext.refl _ | assumption | apply Ext.alloc | apply Ext.drew | apply Ext.drewN | (refine Ext.trans ?_ (by assumption))))⟩

set_option maxRecDepth 100000 in
set_option maxHeartbeats 1600000 in
theorem crosses_yes (ax ay bx by_ cx cy dx dy : Int) (w : World) (h : sideB cx cy dx dy ax ay bx by_ = true) :
    Calls Try.prog 44 #[.agg #[.int .i64 ax, .int .i64 ay, .int .i64 bx, .int .i64 by_], .agg #[.int .i64 cx, .int .i64 cy, .int .i64 dx, .int .i64 dy]] w fun e w' => e = .returned (.bool (sideB ax ay bx by_ cx cy dx dy)) ∧ Ext w w' := by
  have HB : Hid (∀ w', Ext ((w.alloc (.cells #[.int .i64 ax, .int .i64 ay, .int .i64 bx, .int .i64 by_] 58)).alloc (.cells #[.int .i64 cx, .int .i64 cy, .int .i64 dx, .int .i64 dy] 58)) w' → w'.cell? ⟨w.heap.size, 0, none⟩ = some (.int .i64 ax) ∧ w'.cell? ⟨w.heap.size, 1, none⟩ = some (.int .i64 ay) ∧ w'.cell? ⟨w.heap.size, 2, none⟩ = some (.int .i64 bx) ∧ w'.cell? ⟨w.heap.size, 3, none⟩ = some (.int .i64 by_) ∧ w'.cell? ⟨w.heap.size + 1, 0, none⟩ = some (.int .i64 cx) ∧ w'.cell? ⟨w.heap.size + 1, 1, none⟩ = some (.int .i64 cy) ∧ w'.cell? ⟨w.heap.size + 1, 2, none⟩ = some (.int .i64 dx) ∧ w'.cell? ⟨w.heap.size + 1, 3, none⟩ = some (.int .i64 dy)) := fun w' hx => by
    and_intros <;> (((first | rw [hx.cells _ _ (by first | (simp; done) | (simp; omega))] | rw [hx.frozens _ _ (by first | (simp; done) | (simp; omega))]); (first | (simp [go_sem]; done) | (simp [go_sem, World.cell?_alloc_past]; done) | (simp [go_sem, World.frozen?]; done))))
  unfold sideB at h
  have q1 := sgn_mul_wrap (turnW cx cy dx dy ax ay) (turnW cx cy dx dy bx by_)
  have q2 := sgn_mul_wrap (turnW ax ay bx by_ cx cy) (turnW ax ay bx by_ dx dy)
  go_enter Try.func44, Try.ntmps44
  go_wp2
  refine wp_flow (by kernel_rfl) (by kernel_rfl) (fun u => ⟨#[_, _, _, _, u 38, u 0, u 1, u 2, u 3, u 4, u 5, u 6, u 7, u 8, u 9, u 10, u 11, u 12, u 13, u 14, u 15, u 16, u 17, u 18, u 19, u 20, u 21, u 22, u 23, u 24, u 25, u 26, u 27, u 28, u 29, u 30, u 31, u 32, u 33, u 34, u 35, u 36, u 37], _⟩) (fun i => List.getD [_, _, _, _, _, _, _, _, _, _, _, _, _, _, _, _, _, _, _, _, _, _, _, _, _, _, _, _, _, _, _, _, _, _, _, _, _, _, _] i undef) [is ?v11_0, is ?v11_1, is ?v11_2, is ?v11_3, is ?v11_4, is ?v11_5, is ?v11_6, is ?v11_7, is ?v11_8, is ?v11_9, is ?v11_10, is ?v11_11, is ?v11_12, is ?v11_13, is ?v11_14, is ?v11_15, is ?v11_16, is ?v11_17, is ?v11_18, is ?v11_19, is ?v11_20, is ?v11_21, is ?v11_22, is ?v11_23, is ?v11_24, is ?v11_25, is ?v11_26, is ?v11_27, is ?v11_28, is ?v11_29, is ?v11_30, is ?v11_31, is ?v11_32, is ?v11_33, is ?v11_34, is ?v11_35, is ?v11_36, is ?v11_37, is ?v11_38] (fun w' => w'.cell? ⟨w.heap.size, 0, none⟩ = some (.int .i64 ax) ∧ w'.cell? ⟨w.heap.size, 1, none⟩ = some (.int .i64 ay) ∧ w'.cell? ⟨w.heap.size, 2, none⟩ = some (.int .i64 bx) ∧ w'.cell? ⟨w.heap.size, 3, none⟩ = some (.int .i64 by_) ∧ w'.cell? ⟨w.heap.size + 1, 0, none⟩ = some (.int .i64 cx) ∧ w'.cell? ⟨w.heap.size + 1, 1, none⟩ = some (.int .i64 cy) ∧ w'.cell? ⟨w.heap.size + 1, 2, none⟩ = some (.int .i64 dx) ∧ w'.cell? ⟨w.heap.size + 1, 3, none⟩ = some (.int .i64 dy)) _ rfl ?hC11 ?hs11 ?hV11 ?fin11
  case hC11 => exact HB.out
  case hs11 =>
    repeat' (first
      | exact FSteps.nil
      | refine FSteps.cons ?_ ?_
      | (refine FStep.off_ _ _ _ rfl rfl ?_ (fun _ => rfl) ?_; (focus (intro u w hd; simp [vOf, is, Region.binds] at hd; simp [hd])); (intro w'; exact rfl); done)
      | ((first
          | refine FStep.plain rfl ?_
          | (refine FStep.on_ _ _ _ rfl rfl ?_ ?_; (focus (intro u w hd; simp [vOf, is, Region.binds] at hd; simp [hd]))))
         intro u w hW hC hd K hK
         (try simp [vOf, is, Region.binds] at hd)
         simp only [upd, Nat.reduceEqDiff, if_true, if_false] at hK
         (try simp only [hd] at hK)
         go_simp
         (first
           | (refine hK _ _ ?_ ?_; (first | exact rfl); (repeat (first | exact Ext.refl _ | assumption | apply Ext.alloc | apply Ext.drew | apply Ext.drewN | (refine Ext.trans ?_ (by assumption)))))
           | (go_at_call 58; refine (turn_any _ _ _ _ _ _ _).mono ?_; rintro e w1 ⟨rfl, hb⟩; (try go_simp); refine hK _ _ ?_ ?_; (first | exact rfl); (repeat (first | exact Ext.refl _ | assumption | apply Ext.alloc | apply Ext.drew | apply Ext.drewN | (refine Ext.trans ?_ (by assumption)))))
           | (go_at_call 66; refine (sign_any _ _).mono ?_; rintro e w1 ⟨rfl, rfl⟩; (try go_simp); refine hK _ _ ?_ ?_; exact rfl; exact Ext.refl _))))
  case hV11 => (simp only [List.forall_mem_cons]; simp [stable_is])
  case fin11 =>
    intro u w2 hW2 hC2 hd
    simp only [AllV, is] at hd
    simp only [hd]
    clear hd
    go_wp2
    go_ret
    exact ⟨rfl, by (repeat (first | exact Ext.refl _ | assumption | apply Ext.alloc | apply Ext.drew | apply Ext.drewN | (refine Ext.trans ?_ (by assumption))))⟩

theorem crosses_any (ax ay bx by_ cx cy dx dy : Int) (w : World) :
    Calls Try.prog 44 #[.agg #[.int .i64 ax, .int .i64 ay, .int .i64 bx, .int .i64 by_], .agg #[.int .i64 cx, .int .i64 cy, .int .i64 dx, .int .i64 dy]] w fun e w' => e = .returned (.bool (crossB ax ay bx by_ cx cy dx dy)) ∧ Ext w w' := by
  unfold crossB
  cases h : sideB cx cy dx dy ax ay bx by_ with
  | false => exact crosses_no _ _ _ _ _ _ _ _ _ h
  | true => exact crosses_yes _ _ _ _ _ _ _ _ _ h

set_option maxRecDepth 100000 in
set_option maxHeartbeats 1600000 in
theorem l03Cross_no (ax ay bx by_ cx cy dx dy : Int) (w : World) (h : sideB ax ay bx by_ cx cy dx dy = false) :
    Calls Try.prog 64 #[.agg #[.int .i64 ax, .int .i64 ay], .agg #[.int .i64 bx, .int .i64 by_], .agg #[.int .i64 cx, .int .i64 cy], .agg #[.int .i64 dx, .int .i64 dy]] w fun e w' => e = .returned (.bool false) ∧ Ext w w' := by
  have HB : Hid (∀ w', Ext ((((w.alloc (.cells #[.int .i64 ax, .int .i64 ay] 41)).alloc (.cells #[.int .i64 bx, .int .i64 by_] 41)).alloc (.cells #[.int .i64 cx, .int .i64 cy] 41)).alloc (.cells #[.int .i64 dx, .int .i64 dy] 41)) w' → w'.cell? ⟨w.heap.size, 0, none⟩ = some (.int .i64 ax) ∧ w'.cell? ⟨w.heap.size, 1, none⟩ = some (.int .i64 ay) ∧ w'.cell? ⟨w.heap.size + 1, 0, none⟩ = some (.int .i64 bx) ∧ w'.cell? ⟨w.heap.size + 1, 1, none⟩ = some (.int .i64 by_) ∧ w'.cell? ⟨w.heap.size + 1 + 1, 0, none⟩ = some (.int .i64 cx) ∧ w'.cell? ⟨w.heap.size + 1 + 1, 1, none⟩ = some (.int .i64 cy) ∧ w'.cell? ⟨w.heap.size + 1 + 1 + 1, 0, none⟩ = some (.int .i64 dx) ∧ w'.cell? ⟨w.heap.size + 1 + 1 + 1, 1, none⟩ = some (.int .i64 dy)) := fun w' hx => by
    and_intros <;> (((first | rw [hx.cells _ _ (by first | (simp; done) | (simp; omega))] | rw [hx.frozens _ _ (by first | (simp; done) | (simp; omega))]); (first | (simp [go_sem]; done) | (simp [go_sem, World.cell?_alloc_past]; done) | (simp [go_sem, World.frozen?]; done))))
  unfold sideB at h
  have q2 := sgn_mul_wrap (turnW ax ay bx by_ cx cy) (turnW ax ay bx by_ dx dy)
  go_enter Try.func64, Try.ntmps64
  go_wp2
  refine wp_flow (by kernel_rfl) (by kernel_rfl) (fun u => ⟨#[_, _, _, _, _, _, _, _, u 26, u 0, u 1, u 2, u 3, u 4, u 5, u 6, u 7, u 8, u 9, u 10, u 11, u 12, u 13, u 14, u 15, u 16, u 17, u 18, u 19, u 20, u 21, u 22, u 23, u 24, u 25], _⟩) (fun i => List.getD [_, _, _, _, _, _, _, _, _, _, _, _, _, _, _, _, _, _, _, _, _, _, _, _, _, _, _] i undef) [is ?v12_0, is ?v12_1, is ?v12_2, is ?v12_3, is ?v12_4, is ?v12_5, is ?v12_6, is ?v12_7, is ?v12_8, is ?v12_9, is ?v12_10, is ?v12_11, is ?v12_12, is ?v12_13, is ?v12_14, is ?v12_15, is ?v12_16, is ?v12_17, is ?v12_18, is ?v12_19, is ?v12_20, is ?v12_21, is ?v12_22, is ?v12_23, is ?v12_24, is ?v12_25, is ?v12_26] (fun w' => w'.cell? ⟨w.heap.size, 0, none⟩ = some (.int .i64 ax) ∧ w'.cell? ⟨w.heap.size, 1, none⟩ = some (.int .i64 ay) ∧ w'.cell? ⟨w.heap.size + 1, 0, none⟩ = some (.int .i64 bx) ∧ w'.cell? ⟨w.heap.size + 1, 1, none⟩ = some (.int .i64 by_) ∧ w'.cell? ⟨w.heap.size + 1 + 1, 0, none⟩ = some (.int .i64 cx) ∧ w'.cell? ⟨w.heap.size + 1 + 1, 1, none⟩ = some (.int .i64 cy) ∧ w'.cell? ⟨w.heap.size + 1 + 1 + 1, 0, none⟩ = some (.int .i64 dx) ∧ w'.cell? ⟨w.heap.size + 1 + 1 + 1, 1, none⟩ = some (.int .i64 dy)) _ rfl ?hC12 ?hs12 ?hV12 ?fin12
  case hC12 => exact HB.out
  case hs12 =>
    repeat' (first
      | exact FSteps.nil
      | refine FSteps.cons ?_ ?_
      | (refine FStep.off_ _ _ _ rfl rfl ?_ (fun _ => rfl) ?_; (focus (intro u w hd; simp [vOf, is, Region.binds] at hd; simp [hd])); (intro w'; exact rfl); done)
      | ((first
          | refine FStep.plain rfl ?_
          | (refine FStep.on_ _ _ _ rfl rfl ?_ ?_; (focus (intro u w hd; simp [vOf, is, Region.binds] at hd; simp [hd]))))
         intro u w hW hC hd K hK
         (try simp [vOf, is, Region.binds] at hd)
         simp only [upd, Nat.reduceEqDiff, if_true, if_false] at hK
         (try simp only [hd] at hK)
         go_simp
         (first
           | (refine hK _ _ ?_ ?_; (first | exact rfl); (repeat (first | exact Ext.refl _ | assumption | apply Ext.alloc | apply Ext.drew | apply Ext.drewN | (refine Ext.trans ?_ (by assumption)))))
           | (go_at_call 52; refine (sturn_any _ _ _ _ _ _ _).mono ?_; rintro e w1 ⟨rfl, hb⟩; (try go_simp); refine hK _ _ ?_ ?_; (first | exact rfl); (repeat (first | exact Ext.refl _ | assumption | apply Ext.alloc | apply Ext.drew | apply Ext.drewN | (refine Ext.trans ?_ (by assumption)))))
           | (go_at_call 74; refine (l03Sign_any _ _).mono ?_; rintro e w1 ⟨rfl, rfl⟩; (try go_simp); refine hK _ _ ?_ ?_; exact rfl; exact Ext.refl _))))
  case hV12 => (simp only [List.forall_mem_cons]; simp [stable_is])
  case fin12 =>
    intro u w2 hW2 hC2 hd
    simp only [AllV, is] at hd
    simp only [hd]
    clear hd
    go_wp2
    go_ret
    exact ⟨rfl, by (repeat (first | exact Ext.refl _ | assumption | apply Ext.alloc | apply Ext.drew | apply Ext.drewN | (refine Ext.trans ?_ (by assumption))))⟩

set_option maxRecDepth 100000 in
set_option maxHeartbeats 1600000 in
theorem l03Cross_yes (ax ay bx by_ cx cy dx dy : Int) (w : World) (h : sideB ax ay bx by_ cx cy dx dy = true) :
    Calls Try.prog 64 #[.agg #[.int .i64 ax, .int .i64 ay], .agg #[.int .i64 bx, .int .i64 by_], .agg #[.int .i64 cx, .int .i64 cy], .agg #[.int .i64 dx, .int .i64 dy]] w fun e w' => e = .returned (.bool (sideB cx cy dx dy ax ay bx by_)) ∧ Ext w w' := by
  have HB : Hid (∀ w', Ext ((((w.alloc (.cells #[.int .i64 ax, .int .i64 ay] 41)).alloc (.cells #[.int .i64 bx, .int .i64 by_] 41)).alloc (.cells #[.int .i64 cx, .int .i64 cy] 41)).alloc (.cells #[.int .i64 dx, .int .i64 dy] 41)) w' → w'.cell? ⟨w.heap.size, 0, none⟩ = some (.int .i64 ax) ∧ w'.cell? ⟨w.heap.size, 1, none⟩ = some (.int .i64 ay) ∧ w'.cell? ⟨w.heap.size + 1, 0, none⟩ = some (.int .i64 bx) ∧ w'.cell? ⟨w.heap.size + 1, 1, none⟩ = some (.int .i64 by_) ∧ w'.cell? ⟨w.heap.size + 1 + 1, 0, none⟩ = some (.int .i64 cx) ∧ w'.cell? ⟨w.heap.size + 1 + 1, 1, none⟩ = some (.int .i64 cy) ∧ w'.cell? ⟨w.heap.size + 1 + 1 + 1, 0, none⟩ = some (.int .i64 dx) ∧ w'.cell? ⟨w.heap.size + 1 + 1 + 1, 1, none⟩ = some (.int .i64 dy)) := fun w' hx => by
    and_intros <;> (((first | rw [hx.cells _ _ (by first | (simp; done) | (simp; omega))] | rw [hx.frozens _ _ (by first | (simp; done) | (simp; omega))]); (first | (simp [go_sem]; done) | (simp [go_sem, World.cell?_alloc_past]; done) | (simp [go_sem, World.frozen?]; done))))
  unfold sideB at h
  have q1 := sgn_mul_wrap (turnW cx cy dx dy ax ay) (turnW cx cy dx dy bx by_)
  have q2 := sgn_mul_wrap (turnW ax ay bx by_ cx cy) (turnW ax ay bx by_ dx dy)
  go_enter Try.func64, Try.ntmps64
  go_wp2
  refine wp_flow (by kernel_rfl) (by kernel_rfl) (fun u => ⟨#[_, _, _, _, _, _, _, _, u 26, u 0, u 1, u 2, u 3, u 4, u 5, u 6, u 7, u 8, u 9, u 10, u 11, u 12, u 13, u 14, u 15, u 16, u 17, u 18, u 19, u 20, u 21, u 22, u 23, u 24, u 25], _⟩) (fun i => List.getD [_, _, _, _, _, _, _, _, _, _, _, _, _, _, _, _, _, _, _, _, _, _, _, _, _, _, _] i undef) [is ?v13_0, is ?v13_1, is ?v13_2, is ?v13_3, is ?v13_4, is ?v13_5, is ?v13_6, is ?v13_7, is ?v13_8, is ?v13_9, is ?v13_10, is ?v13_11, is ?v13_12, is ?v13_13, is ?v13_14, is ?v13_15, is ?v13_16, is ?v13_17, is ?v13_18, is ?v13_19, is ?v13_20, is ?v13_21, is ?v13_22, is ?v13_23, is ?v13_24, is ?v13_25, is ?v13_26] (fun w' => w'.cell? ⟨w.heap.size, 0, none⟩ = some (.int .i64 ax) ∧ w'.cell? ⟨w.heap.size, 1, none⟩ = some (.int .i64 ay) ∧ w'.cell? ⟨w.heap.size + 1, 0, none⟩ = some (.int .i64 bx) ∧ w'.cell? ⟨w.heap.size + 1, 1, none⟩ = some (.int .i64 by_) ∧ w'.cell? ⟨w.heap.size + 1 + 1, 0, none⟩ = some (.int .i64 cx) ∧ w'.cell? ⟨w.heap.size + 1 + 1, 1, none⟩ = some (.int .i64 cy) ∧ w'.cell? ⟨w.heap.size + 1 + 1 + 1, 0, none⟩ = some (.int .i64 dx) ∧ w'.cell? ⟨w.heap.size + 1 + 1 + 1, 1, none⟩ = some (.int .i64 dy)) _ rfl ?hC13 ?hs13 ?hV13 ?fin13
  case hC13 => exact HB.out
  case hs13 =>
    repeat' (first
      | exact FSteps.nil
      | refine FSteps.cons ?_ ?_
      | (refine FStep.off_ _ _ _ rfl rfl ?_ (fun _ => rfl) ?_; (focus (intro u w hd; simp [vOf, is, Region.binds] at hd; simp [hd])); (intro w'; exact rfl); done)
      | ((first
          | refine FStep.plain rfl ?_
          | (refine FStep.on_ _ _ _ rfl rfl ?_ ?_; (focus (intro u w hd; simp [vOf, is, Region.binds] at hd; simp [hd]))))
         intro u w hW hC hd K hK
         (try simp [vOf, is, Region.binds] at hd)
         simp only [upd, Nat.reduceEqDiff, if_true, if_false] at hK
         (try simp only [hd] at hK)
         go_simp
         (first
           | (refine hK _ _ ?_ ?_; (first | exact rfl); (repeat (first | exact Ext.refl _ | assumption | apply Ext.alloc | apply Ext.drew | apply Ext.drewN | (refine Ext.trans ?_ (by assumption)))))
           | (go_at_call 52; refine (sturn_any _ _ _ _ _ _ _).mono ?_; rintro e w1 ⟨rfl, hb⟩; (try go_simp); refine hK _ _ ?_ ?_; (first | exact rfl); (repeat (first | exact Ext.refl _ | assumption | apply Ext.alloc | apply Ext.drew | apply Ext.drewN | (refine Ext.trans ?_ (by assumption)))))
           | (go_at_call 74; refine (l03Sign_any _ _).mono ?_; rintro e w1 ⟨rfl, rfl⟩; (try go_simp); refine hK _ _ ?_ ?_; exact rfl; exact Ext.refl _))))
  case hV13 => (simp only [List.forall_mem_cons]; simp [stable_is])
  case fin13 =>
    intro u w2 hW2 hC2 hd
    simp only [AllV, is] at hd
    simp only [hd]
    clear hd
    go_wp2
    go_ret
    exact ⟨rfl, by (repeat (first | exact Ext.refl _ | assumption | apply Ext.alloc | apply Ext.drew | apply Ext.drewN | (refine Ext.trans ?_ (by assumption))))⟩

theorem l03Cross_any (ax ay bx by_ cx cy dx dy : Int) (w : World) :
    Calls Try.prog 64 #[.agg #[.int .i64 ax, .int .i64 ay], .agg #[.int .i64 bx, .int .i64 by_], .agg #[.int .i64 cx, .int .i64 cy], .agg #[.int .i64 dx, .int .i64 dy]] w fun e w' => e = .returned (.bool (crossB ax ay bx by_ cx cy dx dy)) ∧ Ext w w' := by
  unfold crossB
  rw [Bool.and_comm]
  cases h : sideB ax ay bx by_ cx cy dx dy with
  | false => exact l03Cross_no _ _ _ _ _ _ _ _ _ h
  | true => exact l03Cross_yes _ _ _ _ _ _ _ _ _ h

end Go.Proofs.Ytnalongggkmllaa
