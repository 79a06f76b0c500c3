/-
  A room's corners as cells; whether a corner is asked for that is there. Contracts: hasCorner, IsReflex and what stands below it.
-/
import Derived.Test.YtmccffmkfdcmmaaSRoomOk
import Derived.Test.YtmccffmkfdcmmaaRoomLaw
namespace Go.Proofs.Ytmccffmkfdcmmaa
open Go.RowKit

theorem RPts.some_ {w : World} {A : Option Addr} {l : List (Int × Int)} (h : RPts w A l) (hl : 0 < l.length) : ∃ b off, A = some ⟨b, off, none⟩ :=
  let ⟨b, off, e, _⟩ := h hl
  ⟨b, off, e⟩

theorem RPts.cell {w : World} {b off : Nat} {l : List (Int × Int)} (h : RPts w (some ⟨b, off, none⟩) l) {k : Nat} (hk : k < l.length) :
    b < w.heap.size ∧ w.cell? ⟨b, off + k * 2, none⟩ = some (.int .i64 (gx l k)) ∧ w.cell? ⟨b, off + k * 2 + 1, none⟩ = some (.int .i64 (gy l k)) := by
  obtain ⟨b', off', e, h1, h2, h3⟩ := h.at_ hk
  injection e with e
  injection e with e1 e2 _
  subst e1 e2
  exact ⟨h1, h2, h3⟩

theorem inB_iff (x lo hi : Int) : inB x lo hi = true ↔ lo ≤ x ∧ x ≤ hi := by simp [inB]

def hasC (l : List (Int × Int)) (k : Int) : Bool := inB k 0 ((l.length : Int) - 1) && roomB l

theorem hasC_at {l : List (Int × Int)} {k : Int} (h : hasC l k = true) : ∃ n : Nat, k = n ∧ n < l.length ∧ roomB l = true := by
  unfold hasC at h
  rw [Bool.and_eq_true, inB_iff] at h
  exact ⟨k.toNat, by omega, by omega, h.2⟩

/-- the turn at corner k -/
def turnAt (l : List (Int × Int)) (k : Nat) : Int := turnW (gx l ((k + l.length - 1) % l.length)) (gy l ((k + l.length - 1) % l.length)) (gx l k) (gy l k) (gx l ((k + 1) % l.length)) (gy l ((k + 1) % l.length))
def reflB (l : List (Int × Int)) (k : Nat) : Bool := decide (turnAt l k < 0)

/-- IsReflex, as both texts give it -/
def isReflV (l : List (Int × Int)) (k : Int) : Bool := hasC l k && reflB l k.toNat

end Go.Proofs.Ytmccffmkfdcmmaa
