/-
  Contracts: BlockingWall.
-/
import Derived.Test.YtanagdlikoinaaaJ4
import Derived.Test.YtanagdlikoinaaaJ2
namespace Go.Proofs.Ytanagdlikoinaaa
open Go.RowKit

/-- the first from k on, of d, that p holds of -/
def firstP (p : Nat → Bool) : Nat → Nat → Int
  | _, 0 => -1
  | k, d + 1 => if p k = true then (k : Int) else firstP p (k + 1) d
theorem firstP_at (p : Nat → Bool) : ∀ d k m, k ≤ m → m < k + d → (∀ j, k ≤ j → j < m → p j = false) → p m = true → firstP p k d = (m : Int)
  | 0, k, m, h1, h2, _, _ => by omega
  | d + 1, k, m, h1, h2, h3, h4 => by
    unfold firstP
    by_cases e : k = m
    · subst e; rw [if_pos h4]
    · rw [if_neg (by rw [h3 k (Nat.le_refl _) (by omega)]; decide)]
      exact firstP_at p d (k + 1) m (by omega) (by omega) (fun j a b => h3 j (by omega) b) h4
theorem firstP_no (p : Nat → Bool) : ∀ d k, (∀ j, k ≤ j → j < k + d → p j = false) → firstP p k d = -1
  | 0, _, _ => rfl
  | d + 1, k, h => by
    unfold firstP
    rw [if_neg (by rw [h k (Nat.le_refl _) (by omega)]; decide)]
    exact firstP_no p d (k + 1) (fun j a b => h j (by omega) (by omega))

/-- whether a line crosses wall k -/
def crsE (l : List (Int × Int)) (ax ay bx by_ : Int) (k : Nat) : Bool := crossB (gx l k) (gy l k) (gx l (nx l k)) (gy l (nx l k)) ax ay bx by_
/-- BlockingWall, as both texts give it -/
def blockV (l : List (Int × Int)) (ax ay bx by_ : Int) : Int := if (ax == bx && ay == by_) = true ∨ isInV l ax ay = false ∨ isInV l bx by_ = false then -1 else firstP (crsE l ax ay bx by_) 0 l.length

theorem isIn_iff {l : List (Int × Int)} {x y : Int} : isInV l x y = true ↔ pok x y = true ∧ roomB l = true ∧ (placeV l x y != 0) = true := by
  unfold isInV placeInV
  cases pok x y <;> cases roomB l <;> simp
/-- whether every point of a list lies in a room -/
def allInV (l ps : List (Int × Int)) : Bool := (List.range ps.length).all (fun k => pok (gx ps k) (gy ps k) && (placeV l (gx ps k) (gy ps k) != 0)) && roomB l

theorem allIn_two (l : List (Int × Int)) (ax ay bx by_ : Int) : allInV l [(ax, ay), (bx, by_)] = (isInV l ax ay && isInV l bx by_) := by
  have h : ∀ x y, isInV l x y = (pok x y && (roomB l && (placeV l x y != 0))) := fun x y => by
    unfold isInV placeInV
    cases pok x y <;> cases roomB l <;> simp
  unfold allInV
  rw [h, h]
  have e : List.range ([(ax, ay), (bx, by_)] : List (Int × Int)).length = [0, 1] := rfl
  rw [e]
  simp only [List.all_cons, List.all_nil, gx, gy, List.getD_cons_zero, List.getD_cons_succ]
  cases pok ax ay <;> cases pok bx by_ <;> cases roomB l <;> simp

theorem rpts_two (w : World) (ax ay bx by_ : Int) (T : TypeId) : RPts (w.alloc (.cells #[.int .i64 ax, .int .i64 ay, .int .i64 bx, .int .i64 by_] T)) (some ⟨w.heap.size, 0, none⟩) [(ax, ay), (bx, by_)] := fun _ => by
  have h := heap_alloc_new w (.cells #[.int .i64 ax, .int .i64 ay, .int .i64 bx, .int .i64 by_] T)
  refine ⟨w.heap.size, 0, rfl, Nat.zero_le _, by simp, fun k hk => ?_⟩
  have hk2 : k = 0 ∨ k = 1 := by simp at hk; omega
  rcases hk2 with rfl | rfl <;> (unfold World.cell?; simp only [h]; exact ⟨rfl, rfl⟩)

theorem cross_room {l : List (Int × Int)} {ax ay bx by_ : Int} (hr : roomB l = true) (ha : pok ax ay = true) (hb : pok bx by_ = true) (hs : (ax == bx && ay == by_) = false) {k : Nat} (hk : k < l.length) : doCrossV ax ay bx by_ (gx l k) (gy l k) (gx l (nx l k)) (gy l (nx l k)) = crsE l ax ay bx by_ k := by
  have h1 : wok ax ay bx by_ = true := by unfold wok pok2 neB; rw [ha, hb, hs]; rfl
  unfold doCrossV crsE crossB
  rw [h1, room_wok hr hk, Bool.true_and, Bool.true_and, Bool.and_comm]
theorem cross_same {l : List (Int × Int)} {ax ay bx by_ : Int} (hs : (ax == bx && ay == by_) = true) (k : Nat) : doCrossV ax ay bx by_ (gx l k) (gy l k) (gx l (nx l k)) (gy l (nx l k)) = false := by
  have h1 : wok ax ay bx by_ = false := by unfold wok neB; rw [hs]; simp
  unfold doCrossV
  rw [h1, Bool.false_and]

end Go.Proofs.Ytanagdlikoinaaa
