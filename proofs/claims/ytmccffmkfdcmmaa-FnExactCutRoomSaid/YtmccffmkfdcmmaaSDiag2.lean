/-
  Contracts: the reference's IsDiagonal, DoDiagonalsCross; the program's DoDiagonalsCross.
-/
import Derived.Test.YtmccffmkfdcmmaaSDiag
import Derived.Test.YtmccffmkfdcmmaaInts
namespace Go.Proofs.Ytmccffmkfdcmmaa
open Go.RowKit

set_option maxHeartbeats 1600000 in
theorem sIsDiagonal_any (A : Option Addr) (l : List (Int × Int)) (c : Nat) (i k : Int) (w : World) (hp : RPts w A l) (hn : l.length ≤ 1048576) :
    Calls Try.prog 19 #[.agg #[.slice A l.length c], .int .i64 i, .int .i64 k] w fun e w' => e = .returned (.bool (diagB l i k)) ∧ Ext w w' := by
  have HB : Hid (∀ w', Ext (w.alloc (.cells #[.slice A l.length c] 29)) w' → w'.cell? ⟨w.heap.size, 0, none⟩ = some (.slice A l.length c) ∧ w.heap.size < w'.heap.size) := fun w' hx => by
    and_intros <;> (first | (have hz := hx.size; simp at hz; omega) | ((first | rw [hx.cells _ _ (by first | (simp; done) | (simp; omega))] | rw [hx.frozens _ _ (by first | (simp; done) | (simp; omega))]); (first | (simp [go_sem]; done) | (simp [go_sem, World.cell?_alloc_past]; done) | (simp [go_sem, World.frozen?]; done))))
  unfold diagB
  cases hr : roomB l
  · go_enter Try.func19, Try.ntmps19
    go_wp2_with (go_at_call 44; refine (sRoomOk_any _ _ _ _ (hp.ext (by (repeat (first | exact Ext.refl _ | assumption | apply Ext.alloc | apply Ext.drew | apply Ext.drewN | (refine Ext.trans ?_ (by assumption)))))) hn).mono ?_; rw [hr]; rintro e w1 ⟨rfl, hb1⟩)
    go_ret
    exact ⟨rfl, by (repeat (first | exact Ext.refl _ | assumption | apply Ext.alloc | apply Ext.drew | apply Ext.drewN | (refine Ext.trans ?_ (by assumption))))⟩
  · have HR := hide hr
    cases h1 : inB i 0 ((l.length : Int) - 1)
    · go_enter Try.func19, Try.ntmps19
      go_wp2_with (first | (go_at_call 44; refine (sRoomOk_any _ _ _ _ (hp.ext (by (repeat (first | exact Ext.refl _ | assumption | apply Ext.alloc | apply Ext.drew | apply Ext.drewN | (refine Ext.trans ?_ (by assumption)))))) hn).mono ?_; rw [hr]; rintro e w1 ⟨rfl, hb1⟩) | (go_at_call 58; refine (l01In_any _ _ _ _).mono ?_; rw [h1]; rintro e w2 ⟨rfl, rfl⟩))
      go_ret
      exact ⟨rfl, by (repeat (first | exact Ext.refl _ | assumption | apply Ext.alloc | apply Ext.drew | apply Ext.drewN | (refine Ext.trans ?_ (by assumption))))⟩
    · cases h2 : inB k 0 ((l.length : Int) - 1)
      · go_enter Try.func19, Try.ntmps19
        go_wp2_with (first | (go_at_call 44; refine (sRoomOk_any _ _ _ _ (hp.ext (by (repeat (first | exact Ext.refl _ | assumption | apply Ext.alloc | apply Ext.drew | apply Ext.drewN | (refine Ext.trans ?_ (by assumption)))))) hn).mono ?_; rw [hr]; rintro e w1 ⟨rfl, hb1⟩) | (go_at_call 58; refine (l01In_any _ _ _ _).mono ?_; (first | rw [h1] | rw [h2]); rintro e w2 ⟨rfl, rfl⟩))
        go_ret
        exact ⟨rfl, by (repeat (first | exact Ext.refl _ | assumption | apply Ext.alloc | apply Ext.drew | apply Ext.drewN | (refine Ext.trans ?_ (by assumption))))⟩
      · obtain ⟨m, rfl, hm⟩ := inB_nat h1
        obtain ⟨p, rfl, hpl⟩ := inB_nat h2
        go_enter Try.func19, Try.ntmps19
        go_wp2_with (first | (go_at_call 44; refine (sRoomOk_any _ _ _ _ (hp.ext (by (repeat (first | exact Ext.refl _ | assumption | apply Ext.alloc | apply Ext.drew | apply Ext.drewN | (refine Ext.trans ?_ (by assumption)))))) hn).mono ?_; rw [hr]; rintro e w1 ⟨rfl, hb1⟩; have f1 := HB.out w1 (by (repeat (first | exact Ext.refl _ | assumption | apply Ext.alloc | apply Ext.drew | apply Ext.drewN | (refine Ext.trans ?_ (by assumption)))))) | (go_at_call 58; refine (l01In_any _ _ _ _).mono ?_; (first | rw [h1] | rw [h2]); rintro e w2 ⟨rfl, rfl⟩) | (go_at_call 59; refine (sDiagonal_nat _ _ _ _ _ _ (hp.ext (by (repeat (first | exact Ext.refl _ | assumption | apply Ext.alloc | apply Ext.drew | apply Ext.drewN | (refine Ext.trans ?_ (by assumption)))))) HR.out hm hpl).mono ?_; rintro e w3 ⟨rfl, hb3⟩))
        go_ret
        exact ⟨rfl, by (repeat (first | exact Ext.refl _ | assumption | apply Ext.alloc | apply Ext.drew | apply Ext.drewN | (refine Ext.trans ?_ (by assumption))))⟩

end Go.Proofs.Ytmccffmkfdcmmaa
