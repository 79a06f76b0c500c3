/-
  Contracts: WallAt.
-/
import Derived.Test.YtanagdlikoinaaaPlace
import Derived.Test.YtanagdlikoinaaaWallOf
namespace Go.Proofs.Ytanagdlikoinaaa
open Go.RowKit

/-- the first wall of l from k on, of d, that p lies on -/
def firstOn (l : List (Int × Int)) (px py : Int) : Nat → Nat → Int
  | _, 0 => -1
  | k, d + 1 => if onE l px py k = true then (k : Int) else firstOn l px py (k + 1) d
/-- WallAt, as both texts give it -/
def wallAtV (l : List (Int × Int)) (px py : Int) : Int := if pok px py = true then (if roomB l = true then firstOn l px py 0 l.length else -1) else -1

theorem firstOn_at (l : List (Int × Int)) (px py : Int) : ∀ d k m, k ≤ m → m < k + d → (∀ j, k ≤ j → j < m → onE l px py j = false) → onE l px py m = true → firstOn l px py k d = (m : Int)
  | 0, k, m, h1, h2, _, _ => by omega
  | d + 1, k, m, h1, h2, h3, h4 => by
    unfold firstOn
    by_cases e : k = m
    · subst e; rw [if_pos h4]
    · rw [if_neg (by rw [h3 k (Nat.le_refl _) (by omega)]; decide)]
      exact firstOn_at l px py d (k + 1) m (by omega) (by omega) (fun j a b => h3 j (by omega) b) h4
theorem firstOn_no (l : List (Int × Int)) (px py : Int) : ∀ d k, (∀ j, k ≤ j → j < k + d → onE l px py j = false) → firstOn l px py k d = -1
  | 0, _, _ => rfl
  | d + 1, k, h => by
    unfold firstOn
    rw [if_neg (by rw [h k (Nat.le_refl _) (by omega)]; decide)]
    exact firstOn_no l px py d (k + 1) (fun j a b => h j (by omega) (by omega))

theorem wallAt_on {l : List (Int × Int)} {px py : Int} {m : Nat} (hr : roomB l = true) (hq : pok px py = true) (hm : m < l.length) (h : ∀ j, j < m → onE l px py j = false) (h4 : onE l px py m = true) : wallAtV l px py = m := by
  unfold wallAtV
  rw [if_pos hq, if_pos hr]
  exact firstOn_at l px py l.length 0 m (by omega) (by omega) (fun j _ b => h j b) h4
theorem wallAt_no {l : List (Int × Int)} {px py : Int} (hr : roomB l = true) (hq : pok px py = true) (h : ∀ j, j < l.length → onE l px py j = false) : wallAtV l px py = -1 := by
  unfold wallAtV
  rw [if_pos hq, if_pos hr]
  exact firstOn_no l px py l.length 0 (fun j _ b => h j (by omega))
theorem wallAt_not {l : List (Int × Int)} {px py : Int} (h : placeInV l px py ≠ 1) : wallAtV l px py = -1 := by
  unfold placeInV at h
  unfold wallAtV
  by_cases hq : pok px py = true
  · rw [if_pos hq] at h ⊢
    by_cases hr : roomB l = true
    · rw [if_pos hr] at h ⊢
      refine firstOn_no l px py l.length 0 (fun j _ b => ?_)
      cases ho : onE l px py j with
      | false => rfl
      | true => exact absurd (placeV_on (by omega) ho) h
    · rw [if_neg hr]
  · rw [if_neg hq]
theorem placeIn_one {l : List (Int × Int)} {px py : Int} (h : placeInV l px py = 1) : roomB l = true ∧ pok px py = true := by
  unfold placeInV at h
  by_cases hq : pok px py = true
  · rw [if_pos hq] at h
    by_cases hr : roomB l = true
    · exact ⟨hr, hq⟩
    · rw [if_neg hr] at h; cases h
  · rw [if_neg hq] at h; cases h

/-- the ends of a valid room's wall differ -/
theorem room_wok {l : List (Int × Int)} (hr : roomB l = true) {k : Nat} (hk : k < l.length) : wok (gx l k) (gy l k) (gx l (nx l k)) (gy l (nx l k)) = true := by
  have hf := (roomB_fine hr).1
  have h1 := hf.pok hk
  have h2 := hf.pok (nx_lt hk)
  have ht : ¬ tn l k = 0 := by
    intro h0
    have := roomB_row hk (rowI_turn h0)
    rw [hr] at this
    cases this
  unfold wok pok2 neB
  rw [h1, h2]
  simp only [Bool.and_self, Bool.true_and, Bool.not_eq_true', Bool.and_eq_false_iff, beq_eq_false_iff_ne]
  refine Classical.byContradiction fun hc => ht ?_
  have e1 : gx l (nx l k) = gx l k := by omega
  have e2 : gy l (nx l k) = gy l k := by omega
  unfold tn turnW
  rw [e1, e2, Int.sub_self, Int.sub_self]
  have z : wrap64 0 = 0 := w64 0 (by omega) (by omega)
  rw [z, Int.zero_mul, Int.zero_mul, z, Int.sub_self, z]

theorem onWall_room {l : List (Int × Int)} {px py : Int} (hr : roomB l = true) (hq : pok px py = true) {k : Nat} (hk : k < l.length) : onWallV (gx l k) (gy l k) (gx l (nx l k)) (gy l (nx l k)) px py = onE l px py k := by
  have hf := (roomB_fine hr).1
  unfold onWallV BetV pok3
  rw [room_wok hr hk, hq, hf.pok hk, hf.pok (nx_lt hk)]
  rfl

set_option maxRecDepth 100000 in
set_option maxHeartbeats 1600000 in
theorem WallAt_any (A : Option Addr) (l : List (Int × Int)) (c : Nat) (px py : Int) (w : World) (hp : RPts w A l) (hn : l.length ≤ 1048576) :
    Calls Try.prog 22 #[.agg #[.slice A l.length c], .agg #[.int .i64 px, .int .i64 py]] w fun e w' => e = .returned (.int .i64 (wallAtV l px py)) ∧ Ext w w' := by
  have HB : Hid (∀ w', Ext ((w.alloc (.cells #[.slice A l.length c] 26)).alloc (.cells #[.int .i64 px, .int .i64 py] 38)) w' → w'.cell? ⟨w.heap.size, 0, none⟩ = some (.slice A l.length c) ∧ w.heap.size < w'.heap.size ∧ w'.cell? ⟨w.heap.size + 1, 0, none⟩ = some (.int .i64 px) ∧ w'.cell? ⟨w.heap.size + 1, 1, none⟩ = some (.int .i64 py) ∧ w.heap.size + 1 < w'.heap.size) := fun w' hx => by
    and_intros <;> (first | (have hz := hx.size; simp at hz; omega) | ((first | rw [hx.cells _ _ (by first | (simp; done) | (simp; omega))] | rw [hx.frozens _ _ (by first | (simp; done) | (simp; omega))]); (first | (simp [go_sem]; done) | (simp [go_sem, World.cell?_alloc_past]; done) | (simp [go_sem, World.frozen?]; done))))
  by_cases h1 : placeInV l px py = 1
  · obtain ⟨hr, hq⟩ := placeIn_one h1
    have HON := hide (fun (m : Nat) (hm : m < l.length) (h : ∀ j, j < m → onE l px py j = false) (h4 : onE l px py m = true) => wallAt_on hr hq hm h h4)
    have HNO := hide (fun (h : ∀ j, j < l.length → onE l px py j = false) => wallAt_no hr hq h)
    clear hr hq
    go_enter Try.func22, Try.ntmps22
    go_wp2_with (first | (go_at_call 21; refine (PlaceIn_any _ _ _ _ _ _ (hp.ext (by (repeat (first | exact Ext.refl _ | assumption | apply Ext.alloc | apply Ext.drew | apply Ext.drewN | (refine Ext.trans ?_ (by assumption)))))) hn).mono ?_; rw [h1]; rintro e w1 ⟨rfl, hb⟩; have f1 := HB.out w1 (by (repeat (first | exact Ext.refl _ | assumption | apply Ext.alloc | apply Ext.drew | apply Ext.drewN | (refine Ext.trans ?_ (by assumption)))))) | (go_at_call 33; refine (wallsOf_any _ _ _ _ (hp.ext (by (repeat (first | exact Ext.refl _ | assumption | apply Ext.alloc | apply Ext.drew | apply Ext.drewN | (refine Ext.trans ?_ (by assumption)))))) hn).mono ?_; rintro e wa ⟨A', c', rfl, hrw, hx⟩))
    clear f1
    go_loopw [15] (fun i wr => ∃ k : Nat, k ≤ l.length ∧ i = .int .i64 k ∧ Ext wa wr ∧ Hid (∀ j, j < k → onE l px py j = false)) (fun i _ => l.length - (intOf i).toNat)
    case atStart => exact ⟨0, Nat.zero_le _, rfl, Ext.refl _, fun j hj => absurd hj (by omega)⟩
    case round =>
      obtain ⟨k, hk, rfl, hbl, HR⟩ := hrel
      obtain ⟨wq, rfl⟩ : ∃ wq : World, wq = wr := ⟨_, rfl⟩
      have fb := HB.out wq (by (repeat (first | exact Ext.refl _ | assumption | apply Ext.alloc | apply Ext.drew | apply Ext.drewN | (refine Ext.trans ?_ (by assumption)))))
      by_cases hlt : k < l.length
      · obtain ⟨g, rfl, hg, c1, c2, c3, c4⟩ := (hrw.ext hbl) k hlt
        cases ho : onE l px py k
        · have HO := hide ho
          unfold onE at ho
          change onW px py (gx l k) (gy l k) (gx l (nx l k)) (gy l (nx l k)) = false at ho
          go_wp2_with (go_at_call 41; refine (on_any _ _ _ _ _ _ _).mono ?_; rintro e w3 ⟨rfl, hb3⟩)
          go_roundw
          case rel => exact ⟨k + 1, by omega, by go_num, by (repeat (first | exact Ext.refl _ | assumption | apply Ext.alloc | apply Ext.drew | apply Ext.drewN | (refine Ext.trans ?_ (by assumption)))), fun j hj => by by_cases e : j = k; (subst e; exact HO.out); exact HR.out j (by omega)⟩
          case measure => simp [intOf]; omega
        · have HV := hide (HON.out k hlt HR.out ho)
          unfold onE at ho
          change onW px py (gx l k) (gy l k) (gx l (nx l k)) (gy l (nx l k)) = true at ho
          go_wp2_with (go_at_call 41; refine (on_any _ _ _ _ _ _ _).mono ?_; rintro e w3 ⟨rfl, hb3⟩)
          go_ret
          exact ⟨ret_int (by rw [HV.out]), by (repeat (first | exact Ext.refl _ | assumption | apply Ext.alloc | apply Ext.drew | apply Ext.drewN | (refine Ext.trans ?_ (by assumption))))⟩
      · have HV := hide (HNO.out (fun j hj => HR.out j (by omega)))
        go_wp2
        go_ret
        exact ⟨ret_int (by rw [HV.out]), by (repeat (first | exact Ext.refl _ | assumption | apply Ext.alloc | apply Ext.drew | apply Ext.drewN | (refine Ext.trans ?_ (by assumption))))⟩
  · have HV := hide (wallAt_not h1)
    have h2 : (placeInV l px py != 1) = true := by simp [h1]
    go_enter Try.func22, Try.ntmps22
    go_wp2_with (go_at_call 21; refine (PlaceIn_any _ _ _ _ _ _ (hp.ext (by (repeat (first | exact Ext.refl _ | assumption | apply Ext.alloc | apply Ext.drew | apply Ext.drewN | (refine Ext.trans ?_ (by assumption)))))) hn).mono ?_; rintro e w1 ⟨rfl, hb⟩)
    go_ret
    exact ⟨ret_int (by rw [HV.out]), by (repeat (first | exact Ext.refl _ | assumption | apply Ext.alloc | apply Ext.drew | apply Ext.drewN | (refine Ext.trans ?_ (by assumption))))⟩

end Go.Proofs.Ytanagdlikoinaaa
