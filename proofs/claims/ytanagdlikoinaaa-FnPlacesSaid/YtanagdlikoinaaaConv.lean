/-
  Contracts: IsConvex, TurnSum.
-/
import Derived.Test.YtanagdlikoinaaaJ3
namespace Go.Proofs.Ytanagdlikoinaaa
open Go.RowKit

/-- IsConvex, as both texts give it -/
def convV (l : List (Int × Int)) : Bool := roomB l && (((reflV l).length : Int) == 0)
/-- TurnSum, as both texts give it -/
def turnSumV (l : List (Int × Int)) : Int := if roomB l = true then (l.length : Int) - 2 * ((reflV l).length : Int) else 0

theorem IsConvex_any (A : Option Addr) (l : List (Int × Int)) (c : Nat) (w : World) (hp : RPts w A l) (hn : l.length ≤ 1048576) :
    Calls Try.prog 13 #[.agg #[.slice A l.length c]] w fun e w' => e = .returned (.bool (convV l)) ∧ Ext w w' := by
  have HB : Hid (∀ w', Ext (w.alloc (.cells #[.slice A l.length c] 26)) w' → w'.cell? ⟨w.heap.size, 0, none⟩ = some (.slice A l.length c) ∧ w.heap.size < w'.heap.size) := fun w' hx => by
    and_intros <;> (first | (have hz := hx.size; simp at hz; omega) | ((first | rw [hx.cells _ _ (by first | (simp; done) | (simp; omega))] | rw [hx.frozens _ _ (by first | (simp; done) | (simp; omega))]); (first | (simp [go_sem]; done) | (simp [go_sem, World.cell?_alloc_past]; done) | (simp [go_sem, World.frozen?]; done))))
  unfold convV
  have hle := reflV_le l
  generalize hx : reflV l = x at hle
  have HX := hide hx
  clear hx
  cases hr : roomB l
  · go_enter Try.func13, Try.ntmps13
    go_wp2_with ((go_at_call 29; refine (RoomOk_any _ _ _ _ (hp.ext (by (repeat (first | exact Ext.refl _ | assumption | apply Ext.alloc | apply Ext.drew | apply Ext.drewN | (refine Ext.trans ?_ (by assumption)))))) hn).mono ?_; rintro e w1 ⟨rfl, hb⟩; have hcc := HB.out w1 (by (repeat (first | exact Ext.refl _ | assumption | apply Ext.alloc | apply Ext.drew | apply Ext.drewN | (refine Ext.trans ?_ (by assumption)))))))
    go_ret
    exact ⟨rfl, by (repeat (first | exact Ext.refl _ | assumption | apply Ext.alloc | apply Ext.drew | apply Ext.drewN | (refine Ext.trans ?_ (by assumption))))⟩
  · have hxl : x.length ≤ 1048576 := by omega
    go_enter Try.func13, Try.ntmps13
    go_wp2_with (first | (go_at_call 29; refine (RoomOk_any _ _ _ _ (hp.ext (by (repeat (first | exact Ext.refl _ | assumption | apply Ext.alloc | apply Ext.drew | apply Ext.drewN | (refine Ext.trans ?_ (by assumption)))))) hn).mono ?_; rintro e w1 ⟨rfl, hb⟩; have hcc := HB.out w1 (by (repeat (first | exact Ext.refl _ | assumption | apply Ext.alloc | apply Ext.drew | apply Ext.drewN | (refine Ext.trans ?_ (by assumption)))))) | (go_at_call 8; refine (ReflexCorners_any _ _ _ _ (hp.ext (by (repeat (first | exact Ext.refl _ | assumption | apply Ext.alloc | apply Ext.drew | apply Ext.drewN | (refine Ext.trans ?_ (by assumption)))))) hn).mono ?_; rw [HX.out]; rintro e w2 ⟨A', c', rfl, ho, hb2⟩))
    go_ret
    exact ⟨ret_bool (by simp), by (repeat (first | exact Ext.refl _ | assumption | apply Ext.alloc | apply Ext.drew | apply Ext.drewN | (refine Ext.trans ?_ (by assumption))))⟩

/-- a slice of n elements -/
def IsLen (n : Nat) (v : Value) (_ : World) : Prop := ∃ A c, v = .slice A n c
theorem IsLen_stable (n : Nat) : Stable (IsLen n) := fun _ _ _ h _ => h

set_option maxRecDepth 100000 in
theorem TurnSum_any (A : Option Addr) (l : List (Int × Int)) (c : Nat) (w : World) (hp : RPts w A l) (hn : l.length ≤ 1048576) :
    Calls Try.prog 12 #[.agg #[.slice A l.length c]] w fun e w' => e = .returned (.int .i64 (turnSumV l)) ∧ Ext w w' := by
  have HB : Hid (∀ w', Ext (w.alloc (.cells #[.slice A l.length c] 26)) w' → w'.cell? ⟨w.heap.size, 0, none⟩ = some (.slice A l.length c) ∧ w.heap.size < w'.heap.size) := fun w' hx => by
    and_intros <;> (first | (have hz := hx.size; simp at hz; omega) | ((first | rw [hx.cells _ _ (by first | (simp; done) | (simp; omega))] | rw [hx.frozens _ _ (by first | (simp; done) | (simp; omega))]); (first | (simp [go_sem]; done) | (simp [go_sem, World.cell?_alloc_past]; done) | (simp [go_sem, World.frozen?]; done))))
  unfold turnSumV
  have hle := reflV_le l
  generalize hx : reflV l = x at hle
  have HX := hide hx
  clear hx
  cases hr : roomB l
  · go_enter Try.func12, Try.ntmps12
    go_wp2_with ((go_at_call 29; refine (RoomOk_any _ _ _ _ (hp.ext (by (repeat (first | exact Ext.refl _ | assumption | apply Ext.alloc | apply Ext.drew | apply Ext.drewN | (refine Ext.trans ?_ (by assumption)))))) hn).mono ?_; rintro e w1 ⟨rfl, hb⟩; have hcc := HB.out w1 (by (repeat (first | exact Ext.refl _ | assumption | apply Ext.alloc | apply Ext.drew | apply Ext.drewN | (refine Ext.trans ?_ (by assumption)))))))
    go_ret
    exact ⟨rfl, by (repeat (first | exact Ext.refl _ | assumption | apply Ext.alloc | apply Ext.drew | apply Ext.drewN | (refine Ext.trans ?_ (by assumption))))⟩
  · have hxl : x.length ≤ 1048576 := by omega
    have z1 := wrap_in (2 * (x.length : Int)) (by omega) (by omega)
    have z2 := wrap_in ((l.length : Int) - 2 * (x.length : Int)) (by omega) (by omega)
    go_enter Try.func12, Try.ntmps12
    go_wp2_with ((go_at_call 29; refine (RoomOk_any _ _ _ _ (hp.ext (by (repeat (first | exact Ext.refl _ | assumption | apply Ext.alloc | apply Ext.drew | apply Ext.drewN | (refine Ext.trans ?_ (by assumption)))))) hn).mono ?_; rintro e w1 ⟨rfl, hb⟩; have hcc := HB.out w1 (by (repeat (first | exact Ext.refl _ | assumption | apply Ext.alloc | apply Ext.drew | apply Ext.drewN | (refine Ext.trans ?_ (by assumption)))))))
    refine wp_flow (by kernel_rfl) (by kernel_rfl) (fun u => ⟨#[_, _, u 8, _, _, _, u 0, u 1, u 2, u 3, u 4, u 5, u 6, u 7], _⟩) (fun i => List.getD [_, _, _, _, _, _, _, _, _] i undef) [is ?v1_0, is ?v1_1, is ?v1_2, is ?v1_3, (IsLen x.length), is ?v1_5, is ?v1_6, is ?v1_7, is ?v1_8] (fun w' => w'.cell? ⟨w.heap.size, 0, none⟩ = some (.slice A l.length c) ∧ w.heap.size < w'.heap.size) _ rfl ?hC1 ?hs1 ?hV1 ?fin1
    case hC1 => exact fun w' hx => HB.out w' (by (repeat (first | exact Ext.refl _ | assumption | apply Ext.alloc | apply Ext.drew | apply Ext.drewN | (refine Ext.trans ?_ (by assumption)))))
    case hs1 =>
      repeat' (first
        | exact FSteps.nil
        | refine FSteps.cons ?_ ?_
        | (refine FStep.off_ _ _ _ rfl rfl ?_ (fun _ => rfl) ?_; (focus (intro u w hd; simp [vOf, is, Region.binds] at hd; simp [hd])); (intro w'; exact rfl); done)
        | ((first
            | refine FStep.plain rfl ?_
            | (refine FStep.on_ _ _ _ rfl rfl ?_ ?_; (focus (intro u w hd; simp [vOf, is, Region.binds] at hd; simp [hd]))))
           intro u w hW hC hd K hK
           (try simp [vOf, is, Region.binds] at hd)
           simp only [upd, Nat.reduceEqDiff, if_true, if_false] at hK
           (try simp only [hd] at hK)
           (try (obtain ⟨Aq, cq, hvq⟩ := hd; simp only [hvq] at hK ⊢))
           go_simp
           (first
             | (refine hK _ _ ?_ ?_; (first | exact rfl); (repeat (first | exact Ext.refl _ | assumption | apply Ext.alloc | apply Ext.drew | apply Ext.drewN | (refine Ext.trans ?_ (by assumption)))))
             | (go_at_call 8; refine (ReflexCorners_any _ _ _ _ (hp.ext (by (repeat (first | exact Ext.refl _ | assumption | apply Ext.alloc | apply Ext.drew | apply Ext.drewN | (refine Ext.trans ?_ (by assumption)))))) hn).mono ?_; rw [HX.out]; rintro e w2 ⟨A', c', rfl, ho, hb2⟩; (try go_simp); refine hK _ _ ?_ ?_; exact ⟨_, _, rfl⟩; (repeat (first | exact Ext.refl _ | assumption | apply Ext.alloc | apply Ext.drew | apply Ext.drewN | (refine Ext.trans ?_ (by assumption))))))))
    case hV1 => (simp only [List.forall_mem_cons]; simp [stable_is, IsLen_stable])
    case fin1 =>
      intro u w2 hW2 hC2 hd
      simp only [AllV, is] at hd
      have hs4 := hd.2.2.2.2.1
      simp only [hd]
      clear hd
      clear z1 z2
      go_wp2
      go_ret
      exact ⟨rfl, by (repeat (first | exact Ext.refl _ | assumption | apply Ext.alloc | apply Ext.drew | apply Ext.drewN | (refine Ext.trans ?_ (by assumption))))⟩

end Go.Proofs.Ytanagdlikoinaaa
