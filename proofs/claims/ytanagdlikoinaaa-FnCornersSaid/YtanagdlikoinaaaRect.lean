/-
  Contracts: IsRectangular.
-/
import Derived.Test.YtanagdlikoinaaaWallOf
namespace Go.Proofs.Ytanagdlikoinaaa
open Go.RowKit

/-- wall k is askew -/
def skewB (l : List (Int × Int)) (k : Nat) : Bool := (gx l k != gx l (nx l k)) && (gy l k != gy l (nx l k))
/-- IsRectangular, as both texts give it -/
def isRectV (l : List (Int × Int)) : Bool := roomB l && !(List.range l.length).any (skewB l)

theorem isRect_some {l : List (Int × Int)} {k : Nat} (hk : k < l.length) (h : skewB l k = true) : isRectV l = false := by
  have : (List.range l.length).any (skewB l) = true := List.any_eq_true.2 ⟨k, List.mem_range.2 hk, h⟩
  simp [isRectV, this]
theorem isRect_none {l : List (Int × Int)} (h : ∀ k, k < l.length → skewB l k = false) : isRectV l = roomB l := by
  have : (List.range l.length).any (skewB l) = false := by
    rw [List.any_eq_false]
    intro k hk
    simp [h k (List.mem_range.1 hk)]
  simp [isRectV, this]

set_option maxRecDepth 100000 in
set_option maxHeartbeats 800000 in
theorem IsRectangular_any (A : Option Addr) (l : List (Int × Int)) (c : Nat) (w : World) (hp : RPts w A l) (hn : l.length ≤ 1048576) :
    Calls Try.prog 14 #[.agg #[.slice A l.length c]] w fun e w' => e = .returned (.bool (isRectV l)) ∧ Ext w w' := by
  have HB : Hid (∀ w', Ext (w.alloc (.cells #[.slice A l.length c] 26)) w' → w'.cell? ⟨w.heap.size, 0, none⟩ = some (.slice A l.length c) ∧ w.heap.size < w'.heap.size) := fun w' hx => by
    and_intros <;> (first | (have hz := hx.size; simp at hz; omega) | ((first | rw [hx.cells _ _ (by first | (simp; done) | (simp; omega))] | rw [hx.frozens _ _ (by first | (simp; done) | (simp; omega))]); (first | (simp [go_sem]; done) | (simp [go_sem, World.cell?_alloc_past]; done) | (simp [go_sem, World.frozen?]; done))))
  go_enter Try.func14, Try.ntmps14
  go_wp2_with (go_at_call 33; refine (wallsOf_any _ _ _ _ (hp.ext (by (repeat (first | exact Ext.refl _ | assumption | apply Ext.alloc | apply Ext.drew | apply Ext.drewN | (refine Ext.trans ?_ (by assumption)))))) hn).mono ?_; rintro e w1 ⟨A', c', rfl, hr, hx⟩)
  go_loopw [9] (fun i wr => ∃ k : Nat, k ≤ l.length ∧ i = .int .i64 k ∧ Ext w1 wr ∧ Hid (∀ j, j < k → skewB l j = false)) (fun i _ => l.length - (intOf i).toNat)
  case atStart => exact ⟨0, Nat.zero_le _, rfl, Ext.refl _, fun j hj => absurd hj (by omega)⟩
  case round =>
    obtain ⟨k, hk, rfl, hbl, HR⟩ := hrel
    by_cases hlt : k < l.length
    · obtain ⟨g, rfl, hg, c1, c2, c3, c4⟩ := (hr.ext hbl) k hlt
      cases e1 : (gx l k != gx l (nx l k))
      · have HS := hide (show skewB l k = false by simp [skewB, e1])
        go_wp2
        go_roundw
        case rel => exact ⟨k + 1, by omega, by go_num, by (repeat (first | exact Ext.refl _ | assumption | apply Ext.alloc | apply Ext.drew | apply Ext.drewN | (refine Ext.trans ?_ (by assumption)))), fun j hj => by by_cases e : j = k; (subst e; exact HS.out); exact HR.out j (by omega)⟩
        case measure => simp [intOf]; omega
      · cases e2 : (gy l k != gy l (nx l k))
        · have HS := hide (show skewB l k = false by simp [skewB, e2])
          go_wp2
          go_roundw
          case rel => exact ⟨k + 1, by omega, by go_num, by (repeat (first | exact Ext.refl _ | assumption | apply Ext.alloc | apply Ext.drew | apply Ext.drewN | (refine Ext.trans ?_ (by assumption)))), fun j hj => by by_cases e : j = k; (subst e; exact HS.out); exact HR.out j (by omega)⟩
          case measure => simp [intOf]; omega
        · have HS := hide (isRect_some hlt (show skewB l k = true by simp [skewB, e1, e2]))
          go_wp2
          go_ret
          exact ⟨by rw [HS.out]; rfl, by (repeat (first | exact Ext.refl _ | assumption | apply Ext.alloc | apply Ext.drew | apply Ext.drewN | (refine Ext.trans ?_ (by assumption))))⟩
    · have HE := hide (isRect_none (fun j hj => HR.out j (by omega)))
      have hcb := HB.out wr (by (repeat (first | exact Ext.refl _ | assumption | apply Ext.alloc | apply Ext.drew | apply Ext.drewN | (refine Ext.trans ?_ (by assumption)))))
      go_wp2_with (go_at_call 29; refine (RoomOk_any _ _ _ _ (hp.ext (by (repeat (first | exact Ext.refl _ | assumption | apply Ext.alloc | apply Ext.drew | apply Ext.drewN | (refine Ext.trans ?_ (by assumption)))))) hn).mono ?_; rintro e w3 ⟨rfl, hb3⟩)
      go_ret
      exact ⟨by rw [HE.out]; rfl, by (repeat (first | exact Ext.refl _ | assumption | apply Ext.alloc | apply Ext.drew | apply Ext.drewN | (refine Ext.trans ?_ (by assumption))))⟩

end Go.Proofs.Ytanagdlikoinaaa
