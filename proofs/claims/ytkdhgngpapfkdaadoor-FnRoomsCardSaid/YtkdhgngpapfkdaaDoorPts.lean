/-
  Contracts: all points of a list are valid; the functions that ask it first.
-/
import Derived.Test.YtkdhgngpapfkdaaDoorJ1
namespace Go.Proofs.YtkdhgngpapfkdaaDoor
open Go.RowKit

def allok (l : List (Int × Int)) : Bool := l.all fun p => pok p.1 p.2

theorem allok_take_succ (l : List (Int × Int)) (k : Nat) (h : k < l.length) : allok (l.take (k+1)) = (allok (l.take k) && pok (gx l k) (gy l k)) := by
  unfold allok gx gy
  rw [List.take_succ_eq_append_getElem h, List.all_append, List.getD_eq_getElem?_getD, List.getElem?_eq_getElem h]
  simp

theorem allok_false (l : List (Int × Int)) (k : Nat) (h : k < l.length) (hp : pok (gx l k) (gy l k) = false) : allok l = false := by
  unfold allok
  rw [List.all_eq_false]
  refine ⟨l[k], List.getElem_mem h, ?_⟩
  unfold gx gy at hp
  rw [List.getD_eq_getElem?_getD, List.getElem?_eq_getElem h] at hp
  simpa using hp

set_option maxHeartbeats 400000 in
theorem pointsOk_any (A : Option Addr) (l : List (Int × Int)) (c : Nat) (w : World) (hp : RPts w A l) (hn : l.length ≤ 1048576) :
    Calls Tryd.prog 58 #[.slice A l.length c] w fun e w' => e = .returned (.bool (allok l)) ∧ Ext w w' := by
  go_enter Tryd.func58, Tryd.ntmps58
  go_wp2
  go_loopw [7] (fun i wr => ∃ k : Nat, k ≤ l.length ∧ i = .int .i64 k ∧ Ext w wr ∧ Hid (allok (l.take k) = true)) (fun i _ => l.length - (intOf i).toNat)
  case atStart => exact ⟨0, Nat.zero_le _, rfl, Ext.refl _, rfl⟩
  case round =>
    obtain ⟨k, hk, rfl, hbl, HOK⟩ := hrel
    by_cases hlt : k < l.length
    · obtain ⟨b, off, rfl, _, hx, hy⟩ := (hp.ext hbl).at_ hlt
      by_cases ho : pok (gx l k) (gy l k) = true
      · have HO := hide ho
        go_wp2_with ((go_at_call 40; refine (pok_any _ _ _).mono ?_; rintro e w1 ⟨rfl, hb⟩))
        go_roundw
        case rel => exact ⟨k + 1, by omega, by go_num, by (repeat (first | exact Ext.refl _ | assumption | apply Ext.alloc | apply Ext.drew | apply Ext.drewN | (refine Ext.trans ?_ (by assumption)))), by unfold Hid; rw [allok_take_succ _ _ hlt, HOK.out, HO.out]; rfl⟩
        case measure => simp [intOf]; omega
      · have hf : pok (gx l k) (gy l k) = false := by simpa using ho
        have HF := hide hf
        go_wp2_with ((go_at_call 40; refine (pok_any _ _ _).mono ?_; rintro e w1 ⟨rfl, hb⟩))
        go_ret
        exact ⟨by rw [allok_false _ _ hlt HF.out]; rfl, by (repeat (first | exact Ext.refl _ | assumption | apply Ext.alloc | apply Ext.drew | apply Ext.drewN | (refine Ext.trans ?_ (by assumption))))⟩
    · go_wp2
      go_ret
      have e : l.take k = l := List.take_of_length_le (by omega)
      rw [e] at HOK
      exact ⟨by rw [HOK.out]; rfl, by assumption⟩

theorem pointsOk2_any (b : Nat) (ax ay bx by_ : Int) (w : World) (hb : b < w.heap.size) (hc : w.cell? ⟨b, 0, none⟩ = some (.int .i64 ax) ∧ w.cell? ⟨b, 1, none⟩ = some (.int .i64 ay) ∧ w.cell? ⟨b, 2, none⟩ = some (.int .i64 bx) ∧ w.cell? ⟨b, 3, none⟩ = some (.int .i64 by_)) :
    Calls Tryd.prog 58 #[.slice (some ⟨b, 0, none⟩) 2 2] w fun e w' => e = .returned (.bool (pok2 ax ay bx by_)) ∧ Ext w w' := by
  have hp : PtsAt w b 0 [(ax, ay), (bx, by_)] := by
    obtain ⟨h0, h1, h2, h3⟩ := hc
    intro k hk
    match k, hk with
    | 0, _ => exact ⟨by simpa [gx] using h0, by simpa [gy] using h1⟩
    | 1, _ => exact ⟨by simpa [gx] using h2, by simpa [gy] using h3⟩
  refine (pointsOk_any (some ⟨b, 0, none⟩) [(ax, ay), (bx, by_)] 2 _ (fun _ => ⟨_, _, rfl, Nat.zero_le _, hb, hp⟩) (by simp)).mono ?_
  rintro e w1 ⟨rfl, hx⟩
  exact ⟨by simp [allok, pok2], hx⟩

theorem pointsOk3_any (b : Nat) (ax ay bx by_ cx cy : Int) (w : World) (hb : b < w.heap.size) (hc : w.cell? ⟨b, 0, none⟩ = some (.int .i64 ax) ∧ w.cell? ⟨b, 1, none⟩ = some (.int .i64 ay) ∧ w.cell? ⟨b, 2, none⟩ = some (.int .i64 bx) ∧ w.cell? ⟨b, 3, none⟩ = some (.int .i64 by_) ∧ w.cell? ⟨b, 4, none⟩ = some (.int .i64 cx) ∧ w.cell? ⟨b, 5, none⟩ = some (.int .i64 cy)) :
    Calls Tryd.prog 58 #[.slice (some ⟨b, 0, none⟩) 3 3] w fun e w' => e = .returned (.bool (pok3 ax ay bx by_ cx cy)) ∧ Ext w w' := by
  have hp : PtsAt w b 0 [(ax, ay), (bx, by_), (cx, cy)] := by
    obtain ⟨h0, h1, h2, h3, h4, h5⟩ := hc
    intro k hk
    match k, hk with
    | 0, _ => exact ⟨by simpa [gx] using h0, by simpa [gy] using h1⟩
    | 1, _ => exact ⟨by simpa [gx] using h2, by simpa [gy] using h3⟩
    | 2, _ => exact ⟨by simpa [gx] using h4, by simpa [gy] using h5⟩
  refine (pointsOk_any (some ⟨b, 0, none⟩) [(ax, ay), (bx, by_), (cx, cy)] 3 _ (fun _ => ⟨_, _, rfl, Nat.zero_le _, hb, hp⟩) (by simp)).mono ?_
  rintro e w1 ⟨rfl, hx⟩
  exact ⟨by simp [allok, pok3], hx⟩

end Go.Proofs.YtkdhgngpapfkdaaDoor
