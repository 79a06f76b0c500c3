/-
  Contracts: the reference's functions of points that ask first whether the points are valid.
-/
import Derived.Test.YtanagdlikoinaaaJ2
import Derived.Test.YtanagdlikoinaaaNear
namespace Go.Proofs.Ytanagdlikoinaaa
open Go.RowKit

theorem sIsBetween_any (ax ay bx by_ cx cy : Int) (w : World) :
    Calls Try.prog 63 #[.agg #[.int .i64 ax, .int .i64 ay], .agg #[.int .i64 bx, .int .i64 by_], .agg #[.int .i64 cx, .int .i64 cy]] w fun e w' => e = .returned (.bool (BetV ax ay bx by_ cx cy)) ∧ Ext w w' := by
  have HB : Hid (∀ w', Ext (((w.alloc (.cells #[.int .i64 ax, .int .i64 ay] 38)).alloc (.cells #[.int .i64 bx, .int .i64 by_] 38)).alloc (.cells #[.int .i64 cx, .int .i64 cy] 38)) w' → w'.cell? ⟨w.heap.size, 0, none⟩ = some (.int .i64 ax) ∧ w'.cell? ⟨w.heap.size, 1, none⟩ = some (.int .i64 ay) ∧ w'.cell? ⟨w.heap.size + 1, 0, none⟩ = some (.int .i64 bx) ∧ w'.cell? ⟨w.heap.size + 1, 1, none⟩ = some (.int .i64 by_) ∧ w'.cell? ⟨w.heap.size + 1 + 1, 0, none⟩ = some (.int .i64 cx) ∧ w'.cell? ⟨w.heap.size + 1 + 1, 1, none⟩ = some (.int .i64 cy)) := fun w' hx => by
    and_intros <;> (((first | rw [hx.cells _ _ (by first | (simp; done) | (simp; omega))] | rw [hx.frozens _ _ (by first | (simp; done) | (simp; omega))]); (first | (simp [go_sem]; done) | (simp [go_sem, World.cell?_alloc_past]; done) | (simp [go_sem, World.frozen?]; done))))
  unfold BetV pok3
  cases ha : pok ax ay
  · go_enter Try.func63, Try.ntmps63
    go_wp2_with ((go_at_call 55; refine (spok_any _ _ _).mono ?_; rintro e w1 ⟨rfl, hb⟩; have hcc := HB.out w1 (by (repeat (first | exact Ext.refl _ | assumption | apply Ext.alloc | apply Ext.drew | apply Ext.drewN | (refine Ext.trans ?_ (by assumption)))))))
    go_ret
    exact ⟨rfl, by (repeat (first | exact Ext.refl _ | assumption | apply Ext.alloc | apply Ext.drew | apply Ext.drewN | (refine Ext.trans ?_ (by assumption))))⟩
  · cases hb' : pok bx by_
    · go_enter Try.func63, Try.ntmps63
      go_wp2_with ((go_at_call 55; refine (spok_any _ _ _).mono ?_; rintro e w1 ⟨rfl, hb⟩; have hcc := HB.out w1 (by (repeat (first | exact Ext.refl _ | assumption | apply Ext.alloc | apply Ext.drew | apply Ext.drewN | (refine Ext.trans ?_ (by assumption)))))))
      go_ret
      exact ⟨rfl, by (repeat (first | exact Ext.refl _ | assumption | apply Ext.alloc | apply Ext.drew | apply Ext.drewN | (refine Ext.trans ?_ (by assumption))))⟩
    · cases hc' : pok cx cy
      all_goals
        go_enter Try.func63, Try.ntmps63
        go_wp2_with (first | (go_at_call 55; refine (spok_any _ _ _).mono ?_; rintro e w1 ⟨rfl, hb⟩; have hcc := HB.out w1 (by (repeat (first | exact Ext.refl _ | assumption | apply Ext.alloc | apply Ext.drew | apply Ext.drewN | (refine Ext.trans ?_ (by assumption)))))) | (go_at_call 65; refine (sbet_any _ _ _ _ _ _ _).mono ?_; rintro e w1 ⟨rfl, hb⟩; have hcc := HB.out w1 (by (repeat (first | exact Ext.refl _ | assumption | apply Ext.alloc | apply Ext.drew | apply Ext.drewN | (refine Ext.trans ?_ (by assumption)))))))
        go_ret
        exact ⟨rfl, by (repeat (first | exact Ext.refl _ | assumption | apply Ext.alloc | apply Ext.drew | apply Ext.drewN | (refine Ext.trans ?_ (by assumption))))⟩

end Go.Proofs.Ytanagdlikoinaaa
