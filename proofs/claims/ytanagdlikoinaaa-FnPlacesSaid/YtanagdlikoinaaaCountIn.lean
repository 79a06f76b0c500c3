/-
  Contracts: CountIn.
-/
import Derived.Test.YtanagdlikoinaaaJ4
namespace Go.Proofs.Ytanagdlikoinaaa
open Go.RowKit

/-- how many of the first k points of m are in l -/
def cntTo (l m : List (Int × Int)) : Nat → Int
  | 0 => 0
  | k + 1 => if isInV l (gx m k) (gy m k) = true then cntTo l m k + 1 else cntTo l m k
theorem cntTo_succ (l m : List (Int × Int)) (k : Nat) : cntTo l m (k + 1) = if isInV l (gx m k) (gy m k) = true then cntTo l m k + 1 else cntTo l m k := rfl
theorem cntTo_bd (l m : List (Int × Int)) : ∀ k, 0 ≤ cntTo l m k ∧ cntTo l m k ≤ (k : Int)
  | 0 => by simp [cntTo]
  | k + 1 => by
    have := cntTo_bd l m k
    rw [cntTo_succ]
    split <;> omega
/-- CountIn, as both texts give it -/
def countInV (l m : List (Int × Int)) : Int := cntTo l m m.length
theorem isIn_room {l : List (Int × Int)} (h : roomB l = false) (px py : Int) : isInV l px py = false := by
  unfold isInV placeInV
  rw [h]
  split <;> rfl
theorem cntTo_no {l : List (Int × Int)} (h : roomB l = false) (m : List (Int × Int)) : ∀ k, cntTo l m k = 0
  | 0 => rfl
  | k + 1 => by rw [cntTo_succ, isIn_room h, if_neg (by decide)]; exact cntTo_no h m k
theorem isIn_pok {l : List (Int × Int)} {px py : Int} (h : pok px py = false) : isInV l px py = false := by
  unfold isInV placeInV
  rw [h]
  rfl
theorem isIn_place {l : List (Int × Int)} {px py : Int} (hr : roomB l = true) (h : pok px py = true) : isInV l px py = (placeV l px py != 0) := by
  unfold isInV placeInV
  rw [if_pos h, if_pos hr]

set_option maxRecDepth 100000 in
set_option maxHeartbeats 1600000 in
theorem CountIn_any (A : Option Addr) (l : List (Int × Int)) (c : Nat) (B : Option Addr) (m : List (Int × Int)) (d : Nat) (w : World) (hp : RPts w A l) (hq : RPts w B m) (hn : l.length ≤ 1048576) (hn' : m.length ≤ 1048576) :
    Calls Try.prog 25 #[.agg #[.slice A l.length c], .slice B m.length d] w fun e w' => e = .returned (.int .i64 (countInV l m)) ∧ Ext w w' := by
  have HB : Hid (∀ w', Ext (w.alloc (.cells #[.slice A l.length c] 26)) w' → w'.cell? ⟨w.heap.size, 0, none⟩ = some (.slice A l.length c) ∧ w.heap.size < w'.heap.size) := fun w' hx => by
    and_intros <;> (first | (have hz := hx.size; simp at hz; omega) | ((first | rw [hx.cells _ _ (by first | (simp; done) | (simp; omega))] | rw [hx.frozens _ _ (by first | (simp; done) | (simp; omega))]); (first | (simp [go_sem]; done) | (simp [go_sem, World.cell?_alloc_past]; done) | (simp [go_sem, World.frozen?]; done))))
  cases hr : roomB l
  · have HV := hide (show countInV l m = 0 from cntTo_no hr m m.length)
    go_enter Try.func25, Try.ntmps25
    go_wp2_with ((go_at_call 29; refine (RoomOk_any _ _ _ _ (hp.ext (by (repeat (first | exact Ext.refl _ | assumption | apply Ext.alloc | apply Ext.drew | apply Ext.drewN | (refine Ext.trans ?_ (by assumption)))))) hn).mono ?_; rintro e w1 ⟨rfl, hb⟩; have hcc := HB.out w1 (by (repeat (first | exact Ext.refl _ | assumption | apply Ext.alloc | apply Ext.drew | apply Ext.drewN | (refine Ext.trans ?_ (by assumption)))))))
    go_ret
    exact ⟨ret_int (by rw [HV.out]), by (repeat (first | exact Ext.refl _ | assumption | apply Ext.alloc | apply Ext.drew | apply Ext.drewN | (refine Ext.trans ?_ (by assumption))))⟩
  · have HP := hide (fun (x y : Int) (h : pok x y = true) => isIn_place hr h)
    go_enter Try.func25, Try.ntmps25
    go_wp2_with ((go_at_call 29; refine (RoomOk_any _ _ _ _ (hp.ext (by (repeat (first | exact Ext.refl _ | assumption | apply Ext.alloc | apply Ext.drew | apply Ext.drewN | (refine Ext.trans ?_ (by assumption)))))) hn).mono ?_; rintro e w1 ⟨rfl, hb⟩; have hcc := HB.out w1 (by (repeat (first | exact Ext.refl _ | assumption | apply Ext.alloc | apply Ext.drew | apply Ext.drewN | (refine Ext.trans ?_ (by assumption)))))))
    clear hcc hr
    obtain ⟨wa, rfl⟩ : ∃ wa : World, wa = w1 := ⟨_, rfl⟩
    go_wp2
    go_loopw [5, 13] (fun s i wr => ∃ k : Nat, k ≤ m.length ∧ i = .int .i64 k ∧ s = .int .i64 (cntTo l m k) ∧ Ext wa wr) (fun _ i _ => m.length - (intOf i).toNat)
    case atStart => exact ⟨0, Nat.zero_le _, rfl, rfl, Ext.refl _⟩
    case round =>
      obtain ⟨k, hk, rfl, rfl, hbl⟩ := hrel
      obtain ⟨wq, rfl⟩ : ∃ wq : World, wq = wr := ⟨_, rfl⟩
      have fb := HB.out wq (by (repeat (first | exact Ext.refl _ | assumption | apply Ext.alloc | apply Ext.drew | apply Ext.drewN | (refine Ext.trans ?_ (by assumption)))))
      have hcb := cntTo_bd l m k
      by_cases hlt : k < m.length
      · have hqr : RPts wq B m := hq.ext (by (repeat (first | exact Ext.refl _ | assumption | apply Ext.alloc | apply Ext.drew | apply Ext.drewN | (refine Ext.trans ?_ (by assumption)))))
        obtain ⟨b, off, rfl⟩ := hqr.some_ (by omega)
        obtain ⟨hz, hx0, hy0⟩ := hqr.cell hlt
        have HQ : Hid (∀ w', Ext (wq.alloc (.cells #[.int .i64 (gx m k), .int .i64 (gy m k)] 38)) w' → w'.cell? ⟨wq.heap.size, 0, none⟩ = some (.int .i64 (gx m k)) ∧ w'.cell? ⟨wq.heap.size, 1, none⟩ = some (.int .i64 (gy m k)) ∧ wq.heap.size < w'.heap.size) := fun w' hx => by
          and_intros <;> (first | (have hz := hx.size; simp at hz; omega) | ((first | rw [hx.cells _ _ (by first | (simp; done) | (simp; omega))] | rw [hx.frozens _ _ (by first | (simp; done) | (simp; omega))]); (first | (simp [go_sem]; done) | (simp [go_sem, World.cell?_alloc_past]; done) | (simp [go_sem, World.frozen?]; done))))
        cases ho : pok (gx m k) (gy m k)
        · have HS := hide (show cntTo l m (k + 1) = cntTo l m k by rw [cntTo_succ, isIn_pok ho]; rfl)
          go_wp2_with (go_at_call 39; refine (pok_any _ _ _).mono ?_; rintro e w1 ⟨rfl, hb1⟩)
          go_roundw
          case rel => exact ⟨k + 1, by omega, by go_num, by rw [HS.out], by (repeat (first | exact Ext.refl _ | assumption | apply Ext.alloc | apply Ext.drew | apply Ext.drewN | (refine Ext.trans ?_ (by assumption))))⟩
          case measure => simp [intOf]; omega
        · have hpl := HP.out _ _ ho
          cases hv : (placeV l (gx m k) (gy m k) != 0)
          · have HS := hide (show cntTo l m (k + 1) = cntTo l m k by rw [cntTo_succ, hpl, hv]; rfl)
            clear hpl
            go_wp2_with (first | (go_at_call 39; refine (pok_any _ _ _).mono ?_; rintro e w1 ⟨rfl, hb1⟩; have g1 := HB.out w1 (by (repeat (first | exact Ext.refl _ | assumption | apply Ext.alloc | apply Ext.drew | apply Ext.drewN | (refine Ext.trans ?_ (by assumption))))); have g2 := HQ.out w1 (by (repeat (first | exact Ext.refl _ | assumption | apply Ext.alloc | apply Ext.drew | apply Ext.drewN | (refine Ext.trans ?_ (by assumption)))))) | (go_at_call 40; refine (place_any _ _ _ _ _ _ (hp.ext (by (repeat (first | exact Ext.refl _ | assumption | apply Ext.alloc | apply Ext.drew | apply Ext.drewN | (refine Ext.trans ?_ (by assumption)))))) hn).mono ?_; rintro e w2 ⟨rfl, hb2⟩))
            go_roundw
            case rel => exact ⟨k + 1, by omega, by go_num, by rw [HS.out], by (repeat (first | exact Ext.refl _ | assumption | apply Ext.alloc | apply Ext.drew | apply Ext.drewN | (refine Ext.trans ?_ (by assumption))))⟩
            case measure => simp [intOf]; omega
          · have HS := hide (show cntTo l m (k + 1) = cntTo l m k + 1 by rw [cntTo_succ, hpl, hv]; rfl)
            clear hpl
            go_wp2_with (first | (go_at_call 39; refine (pok_any _ _ _).mono ?_; rintro e w1 ⟨rfl, hb1⟩; have g1 := HB.out w1 (by (repeat (first | exact Ext.refl _ | assumption | apply Ext.alloc | apply Ext.drew | apply Ext.drewN | (refine Ext.trans ?_ (by assumption))))); have g2 := HQ.out w1 (by (repeat (first | exact Ext.refl _ | assumption | apply Ext.alloc | apply Ext.drew | apply Ext.drewN | (refine Ext.trans ?_ (by assumption)))))) | (go_at_call 40; refine (place_any _ _ _ _ _ _ (hp.ext (by (repeat (first | exact Ext.refl _ | assumption | apply Ext.alloc | apply Ext.drew | apply Ext.drewN | (refine Ext.trans ?_ (by assumption)))))) hn).mono ?_; rintro e w2 ⟨rfl, hb2⟩))
            go_roundw
            case rel => exact ⟨k + 1, by omega, by go_num, by rw [HS.out], by (repeat (first | exact Ext.refl _ | assumption | apply Ext.alloc | apply Ext.drew | apply Ext.drewN | (refine Ext.trans ?_ (by assumption))))⟩
            case measure => simp [intOf]; omega
      · have e : k = m.length := by omega
        have E := hide e
        clear e
        go_wp2
        go_ret
        exact ⟨ret_int (by rw [E.out]; rfl), by (repeat (first | exact Ext.refl _ | assumption | apply Ext.alloc | apply Ext.drew | apply Ext.drewN | (refine Ext.trans ?_ (by assumption))))⟩

end Go.Proofs.Ytanagdlikoinaaa
