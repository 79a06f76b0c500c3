/-
  Contracts: IsConvex, TurnSum.
-/
import Derived.Test.YtngapnmegembaaaRefl
namespace Go.Proofs.Ytngapnmegembaaa
open Go.RowKit

/-- IsConvex, as both texts give it -/
def convV (l : List (Int × Int)) : Bool := roomB l && (((reflV l).length : Int) == 0)
/-- TurnSum, as both texts give it -/
def turnSumV (l : List (Int × Int)) : Int := if roomB l = true then (l.length : Int) - 2 * ((reflV l).length : Int) else 0

theorem IsConvex_any (A : Option Addr) (l : List (Int × Int)) (c : Nat) (w : World) (hp : RPts w A l) (hn : l.length ≤ 1048576) :
    Calls Try.prog 38 #[.agg #[.slice A l.length c]] w fun e w' => e = .returned (.bool (convV l)) ∧ Ext w w' := by
  have HB : Hid (∀ w', Ext (w.alloc (.cells #[.slice A l.length c] 29)) w' → w'.cell? ⟨w.heap.size, 0, none⟩ = some (.slice A l.length c) ∧ w.heap.size < w'.heap.size) := fun w' hx => by
    and_intros <;> (first | (have hz := hx.size; simp at hz; omega) | ((first | rw [hx.cells _ _ (by first | (simp; done) | (simp; omega))] | rw [hx.frozens _ _ (by first | (simp; done) | (simp; omega))]); (first | (simp [go_sem]; done) | (simp [go_sem, World.cell?_alloc_past]; done) | (simp [go_sem, World.frozen?]; done))))
  unfold convV
  have hle := reflV_le l
  generalize hx : reflV l = x at hle
  have HX := hide hx
  clear hx
  cases hr : roomB l
  · go_enter Try.func38, Try.ntmps38
    go_wp2_with ((go_at_call 24; refine (RoomOk_any _ _ _ _ (hp.ext (by (repeat (first | exact Ext.refl _ | assumption | apply Ext.alloc | apply Ext.drew | apply Ext.drewN | (refine Ext.trans ?_ (by assumption)))))) hn).mono ?_; rintro e w1 ⟨rfl, hb⟩; have hcc := HB.out w1 (by (repeat (first | exact Ext.refl _ | assumption | apply Ext.alloc | apply Ext.drew | apply Ext.drewN | (refine Ext.trans ?_ (by assumption)))))))
    go_ret
    exact ⟨rfl, by (repeat (first | exact Ext.refl _ | assumption | apply Ext.alloc | apply Ext.drew | apply Ext.drewN | (refine Ext.trans ?_ (by assumption))))⟩
  · have hxl : x.length ≤ 1048576 := by omega
    go_enter Try.func38, Try.ntmps38
    go_wp2_with (first | (go_at_call 24; refine (RoomOk_any _ _ _ _ (hp.ext (by (repeat (first | exact Ext.refl _ | assumption | apply Ext.alloc | apply Ext.drew | apply Ext.drewN | (refine Ext.trans ?_ (by assumption)))))) hn).mono ?_; rintro e w1 ⟨rfl, hb⟩; have hcc := HB.out w1 (by (repeat (first | exact Ext.refl _ | assumption | apply Ext.alloc | apply Ext.drew | apply Ext.drewN | (refine Ext.trans ?_ (by assumption)))))) | (go_at_call 62; refine (ReflexCorners_any _ _ _ _ (hp.ext (by (repeat (first | exact Ext.refl _ | assumption | apply Ext.alloc | apply Ext.drew | apply Ext.drewN | (refine Ext.trans ?_ (by assumption)))))) hn).mono ?_; rw [HX.out]; rintro e w2 ⟨A', c', rfl, ho, hb2⟩))
    go_ret
    exact ⟨ret_bool (by simp), by (repeat (first | exact Ext.refl _ | assumption | apply Ext.alloc | apply Ext.drew | apply Ext.drewN | (refine Ext.trans ?_ (by assumption))))⟩

theorem sIsConvex_any (A : Option Addr) (l : List (Int × Int)) (c : Nat) (w : World) (hp : RPts w A l) (hn : l.length ≤ 1048576) :
    Calls Try.prog 37 #[.agg #[.slice A l.length c]] w fun e w' => e = .returned (.bool (convV l)) ∧ Ext w w' := by
  have HB : Hid (∀ w', Ext (w.alloc (.cells #[.slice A l.length c] 29)) w' → w'.cell? ⟨w.heap.size, 0, none⟩ = some (.slice A l.length c) ∧ w.heap.size < w'.heap.size) := fun w' hx => by
    and_intros <;> (first | (have hz := hx.size; simp at hz; omega) | ((first | rw [hx.cells _ _ (by first | (simp; done) | (simp; omega))] | rw [hx.frozens _ _ (by first | (simp; done) | (simp; omega))]); (first | (simp [go_sem]; done) | (simp [go_sem, World.cell?_alloc_past]; done) | (simp [go_sem, World.frozen?]; done))))
  unfold convV
  have hle := reflV_le l
  generalize hx : reflV l = x at hle
  have HX := hide hx
  clear hx
  cases hr : roomB l
  · go_enter Try.func37, Try.ntmps37
    go_wp2_with ((go_at_call 22; refine (sRoomOk_any _ _ _ _ (hp.ext (by (repeat (first | exact Ext.refl _ | assumption | apply Ext.alloc | apply Ext.drew | apply Ext.drewN | (refine Ext.trans ?_ (by assumption)))))) hn).mono ?_; rintro e w1 ⟨rfl, hb⟩; have hcc := HB.out w1 (by (repeat (first | exact Ext.refl _ | assumption | apply Ext.alloc | apply Ext.drew | apply Ext.drewN | (refine Ext.trans ?_ (by assumption)))))))
    go_ret
    exact ⟨rfl, by (repeat (first | exact Ext.refl _ | assumption | apply Ext.alloc | apply Ext.drew | apply Ext.drewN | (refine Ext.trans ?_ (by assumption))))⟩
  · have hxl : x.length ≤ 1048576 := by omega
    go_enter Try.func37, Try.ntmps37
    go_wp2_with (first | (go_at_call 22; refine (sRoomOk_any _ _ _ _ (hp.ext (by (repeat (first | exact Ext.refl _ | assumption | apply Ext.alloc | apply Ext.drew | apply Ext.drewN | (refine Ext.trans ?_ (by assumption)))))) hn).mono ?_; rintro e w1 ⟨rfl, hb⟩; have hcc := HB.out w1 (by (repeat (first | exact Ext.refl _ | assumption | apply Ext.alloc | apply Ext.drew | apply Ext.drewN | (refine Ext.trans ?_ (by assumption)))))) | (go_at_call 61; refine (sReflexCorners_any _ _ _ _ (hp.ext (by (repeat (first | exact Ext.refl _ | assumption | apply Ext.alloc | apply Ext.drew | apply Ext.drewN | (refine Ext.trans ?_ (by assumption)))))) hn).mono ?_; rw [HX.out]; rintro e w2 ⟨A', c', rfl, ho, hb2⟩))
    go_ret
    exact ⟨ret_bool (by simp), by (repeat (first | exact Ext.refl _ | assumption | apply Ext.alloc | apply Ext.drew | apply Ext.drewN | (refine Ext.trans ?_ (by assumption))))⟩

/-- a slice of n elements -/
def IsLen (n : Nat) (v : Value) (_ : World) : Prop := ∃ A c, v = .slice A n c
theorem IsLen_stable (n : Nat) : Stable (IsLen n) := fun _ _ _ h _ => h

set_option maxRecDepth 100000 in
theorem TurnSum_any (A : Option Addr) (l : List (Int × Int)) (c : Nat) (w : World) (hp : RPts w A l) (hn : l.length ≤ 1048576) :
    Calls Try.prog 40 #[.agg #[.slice A l.length c]] w fun e w' => e = .returned (.int .i64 (turnSumV l)) ∧ Ext w w' := by
  have HB : Hid (∀ w', Ext (w.alloc (.cells #[.slice A l.length c] 29)) w' → w'.cell? ⟨w.heap.size, 0, none⟩ = some (.slice A l.length c) ∧ w.heap.size < w'.heap.size) := fun w' hx => by
    and_intros <;> (first | (have hz := hx.size; simp at hz; omega) | ((first | rw [hx.cells _ _ (by first | (simp; done) | (simp; omega))] | rw [hx.frozens _ _ (by first | (simp; done) | (simp; omega))]); (first | (simp [go_sem]; done) | (simp [go_sem, World.cell?_alloc_past]; done) | (simp [go_sem, World.frozen?]; done))))
  unfold turnSumV
  have hle := reflV_le l
  generalize hx : reflV l = x at hle
  have HX := hide hx
  clear hx
  cases hr : roomB l
  · go_enter Try.func40, Try.ntmps40
    go_wp2_with ((go_at_call 24; refine (RoomOk_any _ _ _ _ (hp.ext (by (repeat (first | exact Ext.refl _ | assumption | apply Ext.alloc | apply Ext.drew | apply Ext.drewN | (refine Ext.trans ?_ (by assumption)))))) hn).mono ?_; rintro e w1 ⟨rfl, hb⟩; have hcc := HB.out w1 (by (repeat (first | exact Ext.refl _ | assumption | apply Ext.alloc | apply Ext.drew | apply Ext.drewN | (refine Ext.trans ?_ (by assumption)))))))
    go_ret
    exact ⟨rfl, by (repeat (first | exact Ext.refl _ | assumption | apply Ext.alloc | apply Ext.drew | apply Ext.drewN | (refine Ext.trans ?_ (by assumption))))⟩
  · have hxl : x.length ≤ 1048576 := by omega
    have z1 := wrap_in (2 * (x.length : Int)) (by omega) (by omega)
    have z2 := wrap_in ((l.length : Int) - 2 * (x.length : Int)) (by omega) (by omega)
    go_enter Try.func40, Try.ntmps40
    go_wp2_with ((go_at_call 24; refine (RoomOk_any _ _ _ _ (hp.ext (by (repeat (first | exact Ext.refl _ | assumption | apply Ext.alloc | apply Ext.drew | apply Ext.drewN | (refine Ext.trans ?_ (by assumption)))))) hn).mono ?_; rintro e w1 ⟨rfl, hb⟩; have hcc := HB.out w1 (by (repeat (first | exact Ext.refl _ | assumption | apply Ext.alloc | apply Ext.drew | apply Ext.drewN | (refine Ext.trans ?_ (by assumption)))))))
    refine wp_flow (by kernel_rfl) (by kernel_rfl) (fun u => ⟨#[_, _, u 8, _, _, _, u 0, u 1, u 2, u 3, u 4, u 5, u 6, u 7], _⟩) (fun i => List.getD [_, _, _, _, _, _, _, _, _] i undef) [is ?v27_0, is ?v27_1, is ?v27_2, is ?v27_3, (IsLen x.length), is ?v27_5, is ?v27_6, is ?v27_7, is ?v27_8] (fun w' => w'.cell? ⟨w.heap.size, 0, none⟩ = some (.slice A l.length c) ∧ w.heap.size < w'.heap.size) _ rfl ?hC27 ?hs27 ?hV27 ?fin27
    case hC27 => exact fun w' hx => HB.out w' (by (repeat (first | exact Ext.refl _ | assumption | apply Ext.alloc | apply Ext.drew | apply Ext.drewN | (refine Ext.trans ?_ (by assumption)))))
    case hs27 =>
      repeat' (first
        | exact FSteps.nil
        | refine FSteps.cons ?_ ?_
        | (refine FStep.off_ _ _ _ rfl rfl ?_ (fun _ => rfl) ?_; (focus (intro u w hd; simp [vOf, is, Region.binds] at hd; simp [hd])); (intro w'; exact rfl); done)
        | ((first
            | refine FStep.plain rfl ?_
            | (refine FStep.on_ _ _ _ rfl rfl ?_ ?_; (focus (intro u w hd; simp [vOf, is, Region.binds] at hd; simp [hd]))))
           intro u w hW hC hd K hK
           (try simp [vOf, is, Region.binds] at hd)
           simp only [upd, Nat.reduceEqDiff, if_true, if_false] at hK
           (try simp only [hd] at hK)
           (try (obtain ⟨Aq, cq, hvq⟩ := hd; simp only [hvq] at hK ⊢))
           go_simp
           (first
             | (refine hK _ _ ?_ ?_; (first | exact rfl); (repeat (first | exact Ext.refl _ | assumption | apply Ext.alloc | apply Ext.drew | apply Ext.drewN | (refine Ext.trans ?_ (by assumption)))))
             | (go_at_call 62; refine (ReflexCorners_any _ _ _ _ (hp.ext (by (repeat (first | exact Ext.refl _ | assumption | apply Ext.alloc | apply Ext.drew | apply Ext.drewN | (refine Ext.trans ?_ (by assumption)))))) hn).mono ?_; rw [HX.out]; rintro e w2 ⟨A', c', rfl, ho, hb2⟩; (try go_simp); refine hK _ _ ?_ ?_; exact ⟨_, _, rfl⟩; (repeat (first | exact Ext.refl _ | assumption | apply Ext.alloc | apply Ext.drew | apply Ext.drewN | (refine Ext.trans ?_ (by assumption))))))))
    case hV27 => (simp only [List.forall_mem_cons]; simp [stable_is, IsLen_stable])
    case fin27 =>
      intro u w2 hW2 hC2 hd
      simp only [AllV, is] at hd
      have hs4 := hd.2.2.2.2.1
      simp only [hd]
      clear hd
      clear z1 z2
      go_wp2
      go_ret
      exact ⟨rfl, by (repeat (first | exact Ext.refl _ | assumption | apply Ext.alloc | apply Ext.drew | apply Ext.drewN | (refine Ext.trans ?_ (by assumption))))⟩

set_option maxRecDepth 100000 in
theorem sTurnSum_any (A : Option Addr) (l : List (Int × Int)) (c : Nat) (w : World) (hp : RPts w A l) (hn : l.length ≤ 1048576) :
    Calls Try.prog 39 #[.agg #[.slice A l.length c]] w fun e w' => e = .returned (.int .i64 (turnSumV l)) ∧ Ext w w' := by
  have HB : Hid (∀ w', Ext (w.alloc (.cells #[.slice A l.length c] 29)) w' → w'.cell? ⟨w.heap.size, 0, none⟩ = some (.slice A l.length c) ∧ w.heap.size < w'.heap.size) := fun w' hx => by
    and_intros <;> (first | (have hz := hx.size; simp at hz; omega) | ((first | rw [hx.cells _ _ (by first | (simp; done) | (simp; omega))] | rw [hx.frozens _ _ (by first | (simp; done) | (simp; omega))]); (first | (simp [go_sem]; done) | (simp [go_sem, World.cell?_alloc_past]; done) | (simp [go_sem, World.frozen?]; done))))
  unfold turnSumV
  have hle := reflV_le l
  generalize hx : reflV l = x at hle
  have HX := hide hx
  clear hx
  cases hr : roomB l
  · go_enter Try.func39, Try.ntmps39
    go_wp2_with ((go_at_call 22; refine (sRoomOk_any _ _ _ _ (hp.ext (by (repeat (first | exact Ext.refl _ | assumption | apply Ext.alloc | apply Ext.drew | apply Ext.drewN | (refine Ext.trans ?_ (by assumption)))))) hn).mono ?_; rintro e w1 ⟨rfl, hb⟩; have hcc := HB.out w1 (by (repeat (first | exact Ext.refl _ | assumption | apply Ext.alloc | apply Ext.drew | apply Ext.drewN | (refine Ext.trans ?_ (by assumption)))))))
    go_ret
    exact ⟨rfl, by (repeat (first | exact Ext.refl _ | assumption | apply Ext.alloc | apply Ext.drew | apply Ext.drewN | (refine Ext.trans ?_ (by assumption))))⟩
  · have hxl : x.length ≤ 1048576 := by omega
    have z1 := wrap_in (2 * (x.length : Int)) (by omega) (by omega)
    have z2 := wrap_in ((l.length : Int) - 2 * (x.length : Int)) (by omega) (by omega)
    go_enter Try.func39, Try.ntmps39
    go_wp2_with ((go_at_call 22; refine (sRoomOk_any _ _ _ _ (hp.ext (by (repeat (first | exact Ext.refl _ | assumption | apply Ext.alloc | apply Ext.drew | apply Ext.drewN | (refine Ext.trans ?_ (by assumption)))))) hn).mono ?_; rintro e w1 ⟨rfl, hb⟩; have hcc := HB.out w1 (by (repeat (first | exact Ext.refl _ | assumption | apply Ext.alloc | apply Ext.drew | apply Ext.drewN | (refine Ext.trans ?_ (by assumption)))))))
    refine wp_flow (by kernel_rfl) (by kernel_rfl) (fun u => ⟨#[_, _, u 8, _, _, _, u 0, u 1, u 2, u 3, u 4, u 5, u 6, u 7], _⟩) (fun i => List.getD [_, _, _, _, _, _, _, _, _] i undef) [is ?v28_0, is ?v28_1, is ?v28_2, is ?v28_3, (IsLen x.length), is ?v28_5, is ?v28_6, is ?v28_7, is ?v28_8] (fun w' => w'.cell? ⟨w.heap.size, 0, none⟩ = some (.slice A l.length c) ∧ w.heap.size < w'.heap.size) _ rfl ?hC28 ?hs28 ?hV28 ?fin28
    case hC28 => exact fun w' hx => HB.out w' (by (repeat (first | exact Ext.refl _ | assumption | apply Ext.alloc | apply Ext.drew | apply Ext.drewN | (refine Ext.trans ?_ (by assumption)))))
    case hs28 =>
      repeat' (first
        | exact FSteps.nil
        | refine FSteps.cons ?_ ?_
        | (refine FStep.off_ _ _ _ rfl rfl ?_ (fun _ => rfl) ?_; (focus (intro u w hd; simp [vOf, is, Region.binds] at hd; simp [hd])); (intro w'; exact rfl); done)
        | ((first
            | refine FStep.plain rfl ?_
            | (refine FStep.on_ _ _ _ rfl rfl ?_ ?_; (focus (intro u w hd; simp [vOf, is, Region.binds] at hd; simp [hd]))))
           intro u w hW hC hd K hK
           (try simp [vOf, is, Region.binds] at hd)
           simp only [upd, Nat.reduceEqDiff, if_true, if_false] at hK
           (try simp only [hd] at hK)
           (try (obtain ⟨Aq, cq, hvq⟩ := hd; simp only [hvq] at hK ⊢))
           go_simp
           (first
             | (refine hK _ _ ?_ ?_; (first | exact rfl); (repeat (first | exact Ext.refl _ | assumption | apply Ext.alloc | apply Ext.drew | apply Ext.drewN | (refine Ext.trans ?_ (by assumption)))))
             | (go_at_call 61; refine (sReflexCorners_any _ _ _ _ (hp.ext (by (repeat (first | exact Ext.refl _ | assumption | apply Ext.alloc | apply Ext.drew | apply Ext.drewN | (refine Ext.trans ?_ (by assumption)))))) hn).mono ?_; rw [HX.out]; rintro e w2 ⟨A', c', rfl, ho, hb2⟩; (try go_simp); refine hK _ _ ?_ ?_; exact ⟨_, _, rfl⟩; (repeat (first | exact Ext.refl _ | assumption | apply Ext.alloc | apply Ext.drew | apply Ext.drewN | (refine Ext.trans ?_ (by assumption))))))))
    case hV28 => (simp only [List.forall_mem_cons]; simp [stable_is, IsLen_stable])
    case fin28 =>
      intro u w2 hW2 hC2 hd
      simp only [AllV, is] at hd
      have hs4 := hd.2.2.2.2.1
      simp only [hd]
      clear hd
      clear z1 z2
      go_wp2
      go_ret
      exact ⟨rfl, by (repeat (first | exact Ext.refl _ | assumption | apply Ext.alloc | apply Ext.drew | apply Ext.drewN | (refine Ext.trans ?_ (by assumption))))⟩

end Go.Proofs.Ytngapnmegembaaa
