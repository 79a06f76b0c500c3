/- The walk of FnAreas. -/
import Derived.Test.YtanagdlikoinaaaPickC
import Derived.Test.YtanagdlikoinaaaDrawS
import Derived.Test.YtanagdlikoinaaaFloor
import Derived.Test.YtanagdlikoinaaaDbl
import Derived.Test.YtanagdlikoinaaaLarger
import Derived.Test.YtanagdlikoinaaaFastF
namespace Go.Proofs.Ytanagdlikoinaaa
open Go.RowKit

theorem FloorPoints_at (A : Option Addr) (l : List (Int × Int)) (c N : Nat) (w : World) (hN : l.length = N) (hp : RPts w A l) (hn : N ≤ 1048576) :
    Calls Try.prog 15 #[.agg #[.slice A N c]] w (RetP 38 (floorV l) w) := by
  subst hN
  exact FloorPoints_any A l c w hp hn
theorem EdgePoints_at (A : Option Addr) (l : List (Int × Int)) (c N : Nat) (v : Int) (w : World) (hN : l.length = N) (hp : RPts w A l) (hn : N ≤ 1048576) (hv : edgeV l = v) :
    Calls Try.prog 16 #[.agg #[.slice A N c]] w fun e w' => e = .returned (.int .i64 v) ∧ Ext w w' := by
  subst hN hv
  exact EdgePoints_any A l c w hp hn
theorem InnerPoints_at (A : Option Addr) (l : List (Int × Int)) (c N : Nat) (v : Int) (w : World) (hN : l.length = N) (hp : RPts w A l) (hn : N ≤ 1048576) (hv : innerV l = v) :
    Calls Try.prog 17 #[.agg #[.slice A N c]] w fun e w' => e = .returned (.int .i64 v) ∧ Ext w w' := by
  subst hN hv
  exact InnerPoints_any A l c w hp hn
theorem DoubleArea_at (A : Option Addr) (l : List (Int × Int)) (c N : Nat) (v : Int) (w : World) (hN : l.length = N) (hp : RPts w A l) (hn : N ≤ 1048576) (hv : dblV l = v) :
    Calls Try.prog 18 #[.slice A N c] w fun e w' => e = .returned (.int .i64 v) ∧ Ext w w' := by
  subst hN hv
  exact DoubleArea_any A l c w hp hn
theorem IsLarger_at (A : Option Addr) (l : List (Int × Int)) (c N : Nat) (v : Bool) (w : World) (hN : l.length = N) (hp : RPts w A l) (hn : N ≤ 1048576) (hv : isLargV l l = v) :
    Calls Try.prog 19 #[.agg #[.slice A N c], .agg #[.slice A N c]] w fun e w' => e = .returned (.bool v) ∧ Ext w w' := by
  subst hN hv
  exact IsLarger_any A l c A l c w hp hp hn hn

set_option maxRecDepth 100000 in
set_option maxHeartbeats 6400000 in
theorem areas_walk (B : Option Addr) (n c : Nat) (w : World) (hb : RB w B n) :
    Calls Try.prog 4 #[.slice B n c] w fun e w' => e = .returned (.bool true) ∧ Below w.heap.size w w' := by
  by_cases hbig : (1048576 : Int) < (n : Int)
  · go_enter Try.func4, Try.ntmps4
    go_wp2_with (go_at_call 6; refine (big_any _ _ _ _).mono ?_; rintro e w1 ⟨rfl, rfl⟩)
    go_ret
    exact ⟨rfl, Below.refl _ _⟩
  · have hn : n ≤ 1048576 := by omega
    go_enter Try.func4, Try.ntmps4
    go_wp2_with (go_at_call 6; refine (big_any _ _ _ _).mono ?_; rintro e w1 ⟨rfl, rfl⟩)
    refine (DrawRoom_any B n c w hb hn).mono ?_
    rintro e w1 ⟨L, A, c1, rfl, hcap, hD, own, x1⟩
    obtain ⟨hr, _, p1, p2, p3, p4⟩ := Jor.areas_plain hD
    have hN3 : 3 ≤ L.length := (roomB_fine hr).2
    have hN10 : L.length ≤ 10 := (roomB_fine hr).1.2
    have r1 : RPts w1 A L := own.r (Nat.le_refl _)
    have hFV : floorV L = floorL L := by unfold floorV; rw [if_pos hr]
    have hfl := floorL_le (roomB_fine hr).1 (by omega)
    have hEb := edgeV_bd L hN10
    have hIL : isLargV L L = false := by unfold isLargV; rw [hr]; simp
    have hDB : dblV L = areaZ L := by
      unfold dblV
      rw [if_pos hN10, if_pos (roomB_fine hr).1.1]
    obtain ⟨N, hN⟩ : ∃ N, L.length = N := ⟨_, rfl⟩
    obtain ⟨Q, hQ⟩ : ∃ Q, (floorL L).length = Q := ⟨_, rfl⟩
    obtain ⟨E, hE⟩ : ∃ E, edgeV L = E := ⟨_, rfl⟩
    obtain ⟨I, hI⟩ : ∃ I, innerV L = I := ⟨_, rfl⟩
    obtain ⟨D, hDD⟩ : ∃ D, areaZ L = D := ⟨_, rfl⟩
    rw [hN] at hcap hN3 hN10 p4 ⊢
    rw [hQ] at p1 hfl
    rw [hE] at p1 p2 p4 hEb
    rw [hI] at p1 p2
    rw [hDD] at p2 p3 hDB
    have HLN := hide hN
    have HFV := hide hFV
    have HFQ := hide hQ
    have HE := hide hE
    have HI := hide hI
    have HD := hide hDB
    have HIL := hide hIL
    have hn10 : N ≤ 1048576 := by omega
    have w1' : IntKind.i64.wrap (I + E) = (Q : Int) := by rw [p1]; exact wrap_in _ (by omega) (by omega)
    have w2' : IntKind.i64.wrap (2 * I) = 2 * I := wrap_in _ (by omega) (by omega)
    have w3' : IntKind.i64.wrap (2 * I + E) = 2 * I + E := wrap_in _ (by omega) (by omega)
    have w4' : IntKind.i64.wrap (2 * I + E - 2) = D := by rw [← p2]; exact wrap_in _ (by omega) (by omega)
    clear hN hQ hE hI hDD hDB hFV hIL hD hr own p1 p2 hEb hfl
    have HB : Hid (∀ w', Ext (w1.alloc (.cells #[.slice A N c1] 26)) w' → w'.cell? ⟨w1.heap.size, 0, none⟩ = some (.slice A N c1) ∧ w1.heap.size < w'.heap.size) := fun w' hx => by
      and_intros <;> (first | (have hz := hx.size; simp at hz; omega) | ((first | rw [hx.cells _ _ (by first | (simp; done) | (simp; omega))] | rw [hx.frozens _ _ (by first | (simp; done) | (simp; omega))]); (first | (simp [go_sem]; done) | (simp [go_sem, World.cell?_alloc_past]; done) | (simp [go_sem, World.frozen?]; done))))
    go_wp2_with fail
    refine (FloorPoints_at A L c1 N _ HLN.out (r1.ext (by (repeat (first | exact Ext.refl _ | assumption | apply Ext.alloc | apply Ext.drew | apply Ext.drewN | (refine Ext.trans ?_ (by assumption)))))) hn10).mono ?_
    rw [HFV.out]
    rintro e wa ⟨A2, c2, rfl, ox, xa⟩
    have fa := HB.out wa (by (repeat (first | exact Ext.refl _ | assumption | apply Ext.alloc | apply Ext.drew | apply Ext.drewN | (refine Ext.trans ?_ (by assumption)))))
    rw [HFQ.out]
    clear ox
    go_wp2_with fail
    refine (EdgePoints_at A L c1 N _ _ HLN.out (r1.ext (by (repeat (first | exact Ext.refl _ | assumption | apply Ext.alloc | apply Ext.drew | apply Ext.drewN | (refine Ext.trans ?_ (by assumption)))))) hn10 HE.out).mono ?_
    rintro e wb ⟨rfl, xb⟩
    have fb := HB.out wb (by (repeat (first | exact Ext.refl _ | assumption | apply Ext.alloc | apply Ext.drew | apply Ext.drewN | (refine Ext.trans ?_ (by assumption)))))
    go_wp2_with fail
    refine (InnerPoints_at A L c1 N _ _ HLN.out (r1.ext (by (repeat (first | exact Ext.refl _ | assumption | apply Ext.alloc | apply Ext.drew | apply Ext.drewN | (refine Ext.trans ?_ (by assumption)))))) hn10 HI.out).mono ?_
    rintro e wc ⟨rfl, xc⟩
    have fc := HB.out wc (by (repeat (first | exact Ext.refl _ | assumption | apply Ext.alloc | apply Ext.drew | apply Ext.drewN | (refine Ext.trans ?_ (by assumption)))))
    go_wp2_with fail
    refine (DoubleArea_at A L c1 N _ _ HLN.out (r1.ext (by (repeat (first | exact Ext.refl _ | assumption | apply Ext.alloc | apply Ext.drew | apply Ext.drewN | (refine Ext.trans ?_ (by assumption)))))) hn10 HD.out).mono ?_
    rintro e wd ⟨rfl, xd⟩
    have fd := HB.out wd (by (repeat (first | exact Ext.refl _ | assumption | apply Ext.alloc | apply Ext.drew | apply Ext.drewN | (refine Ext.trans ?_ (by assumption)))))
    go_wp2_with (go_at_call 19; refine (IsLarger_at A L c1 N _ _ HLN.out (r1.ext (by (repeat (first | exact Ext.refl _ | assumption | apply Ext.alloc | apply Ext.drew | apply Ext.drewN | (refine Ext.trans ?_ (by assumption)))))) hn10 HIL.out).mono ?_; rintro e wf ⟨rfl, xf⟩)
    go_ret
    exact ⟨rfl, (show Ext w wf by (repeat (first | exact Ext.refl _ | assumption | apply Ext.alloc | apply Ext.drew | apply Ext.drewN | (refine Ext.trans ?_ (by assumption))))).below⟩

end Go.Proofs.Ytanagdlikoinaaa
