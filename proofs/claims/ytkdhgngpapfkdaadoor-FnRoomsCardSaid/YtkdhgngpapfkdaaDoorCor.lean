/-
  A room's corners as cells; whether a corner is asked for that is there. Contracts: hasCorner, IsReflex and what stands below it.
-/
import Derived.Test.YtkdhgngpapfkdaaDoorSRoomOk
import Derived.Test.YtkdhgngpapfkdaaDoorRoomLaw
namespace Go.Proofs.YtkdhgngpapfkdaaDoor
open Go.RowKit

theorem RPts.some_ {w : World} {A : Option Addr} {l : List (Int × Int)} (h : RPts w A l) (hl : 0 < l.length) : ∃ b off, A = some ⟨b, off, none⟩ :=
  let ⟨b, off, e, _⟩ := h hl
  ⟨b, off, e⟩

theorem RPts.cell {w : World} {b off : Nat} {l : List (Int × Int)} (h : RPts w (some ⟨b, off, none⟩) l) {k : Nat} (hk : k < l.length) :
    b < w.heap.size ∧ w.cell? ⟨b, off + k * 2, none⟩ = some (.int .i64 (gx l k)) ∧ w.cell? ⟨b, off + k * 2 + 1, none⟩ = some (.int .i64 (gy l k)) := by
  obtain ⟨b', off', e, h1, h2, h3⟩ := h.at_ hk
  injection e with e
  injection e with e1 e2 _
  subst e1 e2
  exact ⟨h1, h2, h3⟩

theorem inB_iff (x lo hi : Int) : inB x lo hi = true ↔ lo ≤ x ∧ x ≤ hi := by simp [inB]

def hasC (l : List (Int × Int)) (k : Int) : Bool := inB k 0 ((l.length : Int) - 1) && roomB l

theorem hasC_at {l : List (Int × Int)} {k : Int} (h : hasC l k = true) : ∃ n : Nat, k = n ∧ n < l.length ∧ roomB l = true := by
  unfold hasC at h
  rw [Bool.and_eq_true, inB_iff] at h
  exact ⟨k.toNat, by omega, by omega, h.2⟩

theorem hasCorner_any (A : Option Addr) (l : List (Int × Int)) (c : Nat) (k : Int) (w : World) (hp : RPts w A l) (hn : l.length ≤ 1048576) :
    Calls Tryd.prog 55 #[.agg #[.slice A l.length c], .int .i64 k] w fun e w' => e = .returned (.bool (hasC l k)) ∧ Ext w w' := by
  have HB : Hid (∀ w', Ext (w.alloc (.cells #[.slice A l.length c] 49)) w' → w'.cell? ⟨w.heap.size, 0, none⟩ = some (.slice A l.length c)) := fun w' hx => by
    and_intros <;> (((first | rw [hx.cells _ _ (by first | (simp; done) | (simp; omega))] | rw [hx.frozens _ _ (by first | (simp; done) | (simp; omega))]); (first | (simp [go_sem]; done) | (simp [go_sem, World.cell?_alloc_past]; done) | (simp [go_sem, World.frozen?]; done))))
  unfold hasC
  cases h : inB k 0 ((l.length : Int) - 1)
  · go_enter Tryd.func55, Tryd.ntmps55
    go_wp2_with (go_at_call 57; refine (between_any _ _ _ _).mono ?_; rintro e w1 ⟨rfl, rfl⟩)
    go_ret
    exact ⟨rfl, by (repeat (first | exact Ext.refl _ | assumption | apply Ext.alloc | apply Ext.drew | apply Ext.drewN | (refine Ext.trans ?_ (by assumption))))⟩
  · go_enter Tryd.func55, Tryd.ntmps55
    go_wp2_with (first
      | (go_at_call 57; refine (between_any _ _ _ _).mono ?_; rintro e w1 ⟨rfl, rfl⟩)
      | (go_at_call 34; refine (RoomOk_any _ _ _ _ (hp.ext (by (repeat (first | exact Ext.refl _ | assumption | apply Ext.alloc | apply Ext.drew | apply Ext.drewN | (refine Ext.trans ?_ (by assumption)))))) hn).mono ?_; rintro e w1 ⟨rfl, hb⟩; have hcc := HB.out w1 (by (repeat (first | exact Ext.refl _ | assumption | apply Ext.alloc | apply Ext.drew | apply Ext.drewN | (refine Ext.trans ?_ (by assumption)))))))
    go_ret
    exact ⟨rfl, by (repeat (first | exact Ext.refl _ | assumption | apply Ext.alloc | apply Ext.drew | apply Ext.drewN | (refine Ext.trans ?_ (by assumption))))⟩

/-- the turn at corner k -/
def turnAt (l : List (Int × Int)) (k : Nat) : Int := turnW (gx l ((k + l.length - 1) % l.length)) (gy l ((k + l.length - 1) % l.length)) (gx l k) (gy l k) (gx l ((k + 1) % l.length)) (gy l ((k + 1) % l.length))
def reflB (l : List (Int × Int)) (k : Nat) : Bool := decide (turnAt l k < 0)

/-- IsReflex, as both texts give it -/
def isReflV (l : List (Int × Int)) (k : Int) : Bool := hasC l k && reflB l k.toNat

end Go.Proofs.YtkdhgngpapfkdaaDoor
