/-
  Contracts: IsConvex, TurnSum.
-/
import Derived.Test.YtjccilpjaaiicaaJ3
namespace Go.Proofs.Ytjccilpjaaiicaa
open Go.RowKit

/-- IsConvex, as both texts give it -/
def convV (l : List (Int × Int)) : Bool := roomB l && (((reflV l).length : Int) == 0)
/-- TurnSum, as both texts give it -/
def turnSumV (l : List (Int × Int)) : Int := if roomB l = true then (l.length : Int) - 2 * ((reflV l).length : Int) else 0

theorem IsConvex_any (A : Option Addr) (l : List (Int × Int)) (c : Nat) (w : World) (hp : RPts w A l) (hn : l.length ≤ 1048576) :
    Calls Try.prog 10 #[.agg #[.slice A l.length c]] w fun e w' => e = .returned (.bool (convV l)) ∧ Ext w w' := by
  have HB : Hid (∀ w', Ext (w.alloc (.cells #[.slice A l.length c] 26)) w' → w'.cell? ⟨w.heap.size, 0, none⟩ = some (.slice A l.length c) ∧ w.heap.size < w'.heap.size) := fun w' hx => by
    and_intros <;> (first | (have hz := hx.size; simp at hz; omega) | ((first | rw [hx.cells _ _ (by first | (simp; done) | (simp; omega))] | rw [hx.frozens _ _ (by first | (simp; done) | (simp; omega))]); (first | (simp [go_sem]; done) | (simp [go_sem, World.cell?_alloc_past]; done) | (simp [go_sem, World.frozen?]; done))))
  unfold convV
  have hle := reflV_le l
  generalize hx : reflV l = x at hle
  have HX := hide hx
  clear hx
  cases hr : roomB l
  · go_enter Try.func10, Try.ntmps10
    go_wp2_with ((go_at_call 17; refine (RoomOk_any _ _ _ _ (hp.ext (by (repeat (first | exact Ext.refl _ | assumption | apply Ext.alloc | apply Ext.drew | apply Ext.drewN | (refine Ext.trans ?_ (by assumption)))))) hn).mono ?_; rintro e w1 ⟨rfl, hb⟩; have hcc := HB.out w1 (by (repeat (first | exact Ext.refl _ | assumption | apply Ext.alloc | apply Ext.drew | apply Ext.drewN | (refine Ext.trans ?_ (by assumption)))))))
    go_ret
    exact ⟨rfl, by (repeat (first | exact Ext.refl _ | assumption | apply Ext.alloc | apply Ext.drew | apply Ext.drewN | (refine Ext.trans ?_ (by assumption))))⟩
  · have hxl : x.length ≤ 1048576 := by omega
    go_enter Try.func10, Try.ntmps10
    go_wp2_with (first | (go_at_call 17; refine (RoomOk_any _ _ _ _ (hp.ext (by (repeat (first | exact Ext.refl _ | assumption | apply Ext.alloc | apply Ext.drew | apply Ext.drewN | (refine Ext.trans ?_ (by assumption)))))) hn).mono ?_; rintro e w1 ⟨rfl, hb⟩; have hcc := HB.out w1 (by (repeat (first | exact Ext.refl _ | assumption | apply Ext.alloc | apply Ext.drew | apply Ext.drewN | (refine Ext.trans ?_ (by assumption)))))) | (go_at_call 25; refine (ReflexCorners_any _ _ _ _ (hp.ext (by (repeat (first | exact Ext.refl _ | assumption | apply Ext.alloc | apply Ext.drew | apply Ext.drewN | (refine Ext.trans ?_ (by assumption)))))) hn).mono ?_; rw [HX.out]; rintro e w2 ⟨A', c', rfl, ho, hb2⟩))
    go_ret
    exact ⟨ret_bool (by simp), by (repeat (first | exact Ext.refl _ | assumption | apply Ext.alloc | apply Ext.drew | apply Ext.drewN | (refine Ext.trans ?_ (by assumption))))⟩

/-- a slice of n elements -/
def IsLen (n : Nat) (v : Value) (_ : World) : Prop := ∃ A c, v = .slice A n c
theorem IsLen_stable (n : Nat) : Stable (IsLen n) := fun _ _ _ h _ => h

end Go.Proofs.Ytjccilpjaaiicaa
