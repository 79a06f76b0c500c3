/-
  Contracts: BlockingWall.
-/
import Derived.Test.YtmccffmkfdcmmaaWallAt
import Derived.Test.YtmccffmkfdcmmaaMeet
namespace Go.Proofs.Ytmccffmkfdcmmaa
open Go.RowKit

/-- the first from k on, of d, that p holds of -/
def firstP (p : Nat → Bool) : Nat → Nat → Int
  | _, 0 => -1
  | k, d + 1 => if p k = true then (k : Int) else firstP p (k + 1) d
theorem firstP_at (p : Nat → Bool) : ∀ d k m, k ≤ m → m < k + d → (∀ j, k ≤ j → j < m → p j = false) → p m = true → firstP p k d = (m : Int)
  | 0, k, m, h1, h2, _, _ => by omega
  | d + 1, k, m, h1, h2, h3, h4 => by
    unfold firstP
    by_cases e : k = m
    · subst e; rw [if_pos h4]
    · rw [if_neg (by rw [h3 k (Nat.le_refl _) (by omega)]; decide)]
      exact firstP_at p d (k + 1) m (by omega) (by omega) (fun j a b => h3 j (by omega) b) h4
theorem firstP_no (p : Nat → Bool) : ∀ d k, (∀ j, k ≤ j → j < k + d → p j = false) → firstP p k d = -1
  | 0, _, _ => rfl
  | d + 1, k, h => by
    unfold firstP
    rw [if_neg (by rw [h k (Nat.le_refl _) (by omega)]; decide)]
    exact firstP_no p d (k + 1) (fun j a b => h j (by omega) (by omega))

/-- whether a line crosses wall k -/
def crsE (l : List (Int × Int)) (ax ay bx by_ : Int) (k : Nat) : Bool := crossB (gx l k) (gy l k) (gx l (nx l k)) (gy l (nx l k)) ax ay bx by_
/-- BlockingWall, as both texts give it -/
def blockV (l : List (Int × Int)) (ax ay bx by_ : Int) : Int := if (ax == bx && ay == by_) = true ∨ isInV l ax ay = false ∨ isInV l bx by_ = false then -1 else firstP (crsE l ax ay bx by_) 0 l.length

theorem isIn_iff {l : List (Int × Int)} {x y : Int} : isInV l x y = true ↔ pok x y = true ∧ roomB l = true ∧ (placeV l x y != 0) = true := by
  unfold isInV placeInV
  cases pok x y <;> cases roomB l <;> simp
/-- whether every point of a list lies in a room -/
def allInV (l ps : List (Int × Int)) : Bool := (List.range ps.length).all (fun k => pok (gx ps k) (gy ps k) && (placeV l (gx ps k) (gy ps k) != 0)) && roomB l

set_option maxRecDepth 100000 in
set_option maxHeartbeats 1600000 in
theorem allIn_any (A B : Option Addr) (l ps : List (Int × Int)) (c d : Nat) (w : World) (hp : RPts w A l) (hq : RPts w B ps) (hn : l.length ≤ 1048576) (hm : ps.length ≤ 1048576) :
    Calls Try.prog 56 #[.agg #[.slice A l.length c], .slice B ps.length d] w fun e w' => e = .returned (.bool (allInV l ps)) ∧ Ext w w' := by
  have HB : Hid (∀ w', Ext (w.alloc (.cells #[.slice A l.length c] 29)) w' → w'.cell? ⟨w.heap.size, 0, none⟩ = some (.slice A l.length c) ∧ w.heap.size < w'.heap.size) := fun w' hx => by
    and_intros <;> (first | (have hz := hx.size; simp at hz; omega) | ((first | rw [hx.cells _ _ (by first | (simp; done) | (simp; omega))] | rw [hx.frozens _ _ (by first | (simp; done) | (simp; omega))]); (first | (simp [go_sem]; done) | (simp [go_sem, World.cell?_alloc_past]; done) | (simp [go_sem, World.frozen?]; done))))
  go_enter Try.func56, Try.ntmps56
  go_wp2
  go_loopw [9] (fun i wr => ∃ k : Nat, k ≤ ps.length ∧ i = .int .i64 k ∧ Ext (w.alloc (.cells #[.slice A l.length c] 29)) wr ∧ Hid (∀ j, j < k → (pok (gx ps j) (gy ps j) && (placeV l (gx ps j) (gy ps j) != 0)) = true)) (fun i _ => ps.length - (intOf i).toNat)
  case atStart => exact ⟨0, Nat.zero_le _, rfl, by (repeat (first | exact Ext.refl _ | assumption | apply Ext.alloc | apply Ext.drew | apply Ext.drewN | (refine Ext.trans ?_ (by assumption)))), hide (fun j hj => absurd hj (by omega))⟩
  case round =>
    obtain ⟨k, hk, rfl, hbl, HR⟩ := hrel
    obtain ⟨wq, rfl⟩ : ∃ wq : World, wq = wr := ⟨_, rfl⟩
    have fb := HB.out wq hbl
    by_cases hlt : k < ps.length
    · have q2 : (k : Int) < (ps.length : Int) := by omega
      obtain ⟨b, off, rfl⟩ := hq.some_ (by omega)
      obtain ⟨hz, hx, hy⟩ := (hq.ext (show Ext w wq by (repeat (first | exact Ext.refl _ | assumption | apply Ext.alloc | apply Ext.drew | apply Ext.drewN | (refine Ext.trans ?_ (by assumption)))))).cell hlt
      obtain ⟨px, hpx⟩ : ∃ x, x = gx ps k := ⟨_, rfl⟩
      obtain ⟨py, hpy⟩ : ∃ x, x = gy ps k := ⟨_, rfl⟩
      rw [← hpx] at hx
      rw [← hpy] at hy
      have HX := hide hpx
      have HY := hide hpy
      clear hpx hpy
      have HQ : Hid (∀ w', Ext (wq.alloc (.cells #[.int .i64 px, .int .i64 py] 35)) w' → w'.cell? ⟨wq.heap.size, 0, none⟩ = some (.int .i64 px) ∧ w'.cell? ⟨wq.heap.size, 1, none⟩ = some (.int .i64 py) ∧ wq.heap.size < w'.heap.size) := fun w' hx => by
        and_intros <;> (first | (have hz := hx.size; simp at hz; omega) | ((first | rw [hx.cells _ _ (by first | (simp; done) | (simp; omega))] | rw [hx.frozens _ _ (by first | (simp; done) | (simp; omega))]); (first | (simp [go_sem]; done) | (simp [go_sem, World.cell?_alloc_past]; done) | (simp [go_sem, World.frozen?]; done))))
      cases hv : (pok px py && (placeV l px py != 0))
      · have HV := hide (show allInV l ps = false by
          unfold allInV
          rw [List.all_eq_false.2 ⟨k, List.mem_range.2 hlt, by rw [← HX.out, ← HY.out, hv]; decide⟩]
          rfl)
        cases h1 : pok px py
        · go_wp2_with (go_at_call 83; refine (pok_any _ _ _).mono ?_; rw [h1]; rintro e w1 ⟨rfl, hb1⟩)
          go_ret
          exact ⟨by rw [HV.out]; rfl, by (repeat (first | exact Ext.refl _ | assumption | apply Ext.alloc | apply Ext.drew | apply Ext.drewN | (refine Ext.trans ?_ (by assumption))))⟩
        · have h2 : placeV l px py = 0 := by simpa [h1] using hv
          clear hv
          go_wp2_with (first | (go_at_call 83; refine (pok_any _ _ _).mono ?_; rw [h1]; rintro e w1 ⟨rfl, hb1⟩; have f1 := HB.out w1 (by (repeat (first | exact Ext.refl _ | assumption | apply Ext.alloc | apply Ext.drew | apply Ext.drewN | (refine Ext.trans ?_ (by assumption))))); have g1 := HQ.out w1 (by (repeat (first | exact Ext.refl _ | assumption | apply Ext.alloc | apply Ext.drew | apply Ext.drewN | (refine Ext.trans ?_ (by assumption)))))) | (go_at_call 79; refine (place_any _ _ _ _ _ _ (hp.ext (by (repeat (first | exact Ext.refl _ | assumption | apply Ext.alloc | apply Ext.drew | apply Ext.drewN | (refine Ext.trans ?_ (by assumption)))))) hn).mono ?_; rw [h2]; rintro e w2 ⟨rfl, hb2⟩))
          go_ret
          exact ⟨by rw [HV.out]; rfl, by (repeat (first | exact Ext.refl _ | assumption | apply Ext.alloc | apply Ext.drew | apply Ext.drewN | (refine Ext.trans ?_ (by assumption))))⟩
      · have h1 : pok px py = true := (Bool.and_eq_true _ _ ▸ hv).1
        have h2 : (placeV l px py == 0) = false := by have := (Bool.and_eq_true _ _ ▸ hv).2; simpa using this
        have HV := hide hv
        clear hv
        go_wp2_with (first | (go_at_call 83; refine (pok_any _ _ _).mono ?_; rw [h1]; rintro e w1 ⟨rfl, hb1⟩; have f1 := HB.out w1 (by (repeat (first | exact Ext.refl _ | assumption | apply Ext.alloc | apply Ext.drew | apply Ext.drewN | (refine Ext.trans ?_ (by assumption))))); have g1 := HQ.out w1 (by (repeat (first | exact Ext.refl _ | assumption | apply Ext.alloc | apply Ext.drew | apply Ext.drewN | (refine Ext.trans ?_ (by assumption)))))) | (go_at_call 79; refine (place_any _ _ _ _ _ _ (hp.ext (by (repeat (first | exact Ext.refl _ | assumption | apply Ext.alloc | apply Ext.drew | apply Ext.drewN | (refine Ext.trans ?_ (by assumption)))))) hn).mono ?_; rintro e w2 ⟨rfl, hb2⟩))
        go_roundw
        case rel => exact ⟨k + 1, by omega, by go_num, by (repeat (first | exact Ext.refl _ | assumption | apply Ext.alloc | apply Ext.drew | apply Ext.drewN | (refine Ext.trans ?_ (by assumption)))), hide (fun j hj => by by_cases e : j = k; (subst e; rw [← HX.out, ← HY.out]; exact HV.out); exact HR.out j (by omega))⟩
        case measure => simp [intOf]; omega
    · have q2 : ¬ (k : Int) < (ps.length : Int) := by omega
      have HV := hide (show allInV l ps = roomB l by
        unfold allInV
        rw [List.all_eq_true.2 (fun j hj => HR.out j (by have := List.mem_range.1 hj; omega))]
        rfl)
      go_wp2_with (go_at_call 50; refine (RoomOk_any _ _ _ _ (hp.ext (by (repeat (first | exact Ext.refl _ | assumption | apply Ext.alloc | apply Ext.drew | apply Ext.drewN | (refine Ext.trans ?_ (by assumption)))))) hn).mono ?_; rintro e w1 ⟨rfl, hb1⟩)
      go_ret
      exact ⟨by rw [HV.out]; rfl, by (repeat (first | exact Ext.refl _ | assumption | apply Ext.alloc | apply Ext.drew | apply Ext.drewN | (refine Ext.trans ?_ (by assumption))))⟩

theorem allIn_two (l : List (Int × Int)) (ax ay bx by_ : Int) : allInV l [(ax, ay), (bx, by_)] = (isInV l ax ay && isInV l bx by_) := by
  have h : ∀ x y, isInV l x y = (pok x y && (roomB l && (placeV l x y != 0))) := fun x y => by
    unfold isInV placeInV
    cases pok x y <;> cases roomB l <;> simp
  unfold allInV
  rw [h, h]
  have e : List.range ([(ax, ay), (bx, by_)] : List (Int × Int)).length = [0, 1] := rfl
  rw [e]
  simp only [List.all_cons, List.all_nil, gx, gy, List.getD_cons_zero, List.getD_cons_succ]
  cases pok ax ay <;> cases pok bx by_ <;> cases roomB l <;> simp

theorem rpts_two (w : World) (ax ay bx by_ : Int) (T : TypeId) : RPts (w.alloc (.cells #[.int .i64 ax, .int .i64 ay, .int .i64 bx, .int .i64 by_] T)) (some ⟨w.heap.size, 0, none⟩) [(ax, ay), (bx, by_)] := fun _ => by
  have h := heap_alloc_new w (.cells #[.int .i64 ax, .int .i64 ay, .int .i64 bx, .int .i64 by_] T)
  refine ⟨w.heap.size, 0, rfl, Nat.zero_le _, by simp, fun k hk => ?_⟩
  have hk2 : k = 0 ∨ k = 1 := by simp at hk; omega
  rcases hk2 with rfl | rfl <;> (unfold World.cell?; simp only [h]; exact ⟨rfl, rfl⟩)

theorem cross_room {l : List (Int × Int)} {ax ay bx by_ : Int} (hr : roomB l = true) (ha : pok ax ay = true) (hb : pok bx by_ = true) (hs : (ax == bx && ay == by_) = false) {k : Nat} (hk : k < l.length) : doCrossV ax ay bx by_ (gx l k) (gy l k) (gx l (nx l k)) (gy l (nx l k)) = crsE l ax ay bx by_ k := by
  have h1 : wok ax ay bx by_ = true := by unfold wok pok2 neB; rw [ha, hb, hs]; rfl
  unfold doCrossV crsE crossB
  rw [h1, room_wok hr hk, Bool.true_and, Bool.true_and, Bool.and_comm]
theorem cross_same {l : List (Int × Int)} {ax ay bx by_ : Int} (hs : (ax == bx && ay == by_) = true) (k : Nat) : doCrossV ax ay bx by_ (gx l k) (gy l k) (gx l (nx l k)) (gy l (nx l k)) = false := by
  have h1 : wok ax ay bx by_ = false := by unfold wok neB; rw [hs]; simp
  unfold doCrossV
  rw [h1, Bool.false_and]

end Go.Proofs.Ytmccffmkfdcmmaa
