/-
  Contract: sight in a valid room (the reference's l08Sees).
-/
import Derived.Test.YtjccilpjaaiicaaCornersB
import Derived.Test.YtjccilpjaaiicaaJ6
namespace Go.Proofs.Ytjccilpjaaiicaa
open Go.RowKit

/-- a new block of a region's own, told by a pointer -/
def NewC (lo : Nat) (cs : Array Value) (T : TypeId) (v : Value) (w : World) : Prop := ∃ g, v = .pointer (some ⟨g, 0, none⟩) ∧ lo ≤ g ∧ w.heap[g]? = some (.cells cs T (0, 0))
theorem NewC_stable (lo : Nat) (cs : Array Value) (T : TypeId) : Stable (NewC lo cs T) := by
  rintro v w w' ⟨g, rfl, h1, h2⟩ hx
  exact ⟨g, rfl, h1, (hx.below.block g (heap_lt h2)).trans h2⟩
theorem NewC_mk {lo : Nat} {cs : Array Value} {T : TypeId} (w : World) (h : lo ≤ w.heap.size) : NewC lo cs T (.pointer (some ⟨w.heap.size, 0, none⟩)) (w.alloc (.cells cs T)) := ⟨_, rfl, h, heap_alloc_new w _⟩

theorem ownBlock_ne {w w1 : World} {base e size n : Nat} {o o' v' : Value} {xs : List Value} (h : w.ownsRow base e size o' n xs) (hx : Ext w w1) (hd : o.ownBlock ≠ o'.ownBlock) (hv : v'.ownBlock = o.ownBlock ∨ v'.ownBlock = some w1.heap.size) : v'.ownBlock ≠ o'.ownBlock := by
  rcases hv with hv | hv
  · rw [hv]; exact hd
  · rw [hv]
    intro he
    have := (h.lt _ he.symm).2
    have := hx.size
    omega

theorem sHolds_at (A : Option Addr) (l : List (Int × Int)) (k c : Nat) (px py : Int) (w : World) (hp : RPts w A l) (hk : k = l.length) (hn : k ≤ 1048576) :
    Calls Try.prog 57 #[.slice A k c, .agg #[.int .i64 px, .int .i64 py]] w fun e w' => e = .returned (.int .i64 (holdsV l px py)) ∧ Ext w w' := by
  subst hk
  exact sHolds_any A l c px py w hp hn

theorem cross_sw {l : List (Int × Int)} {ax ay bx by_ : Int} {k : Nat} {v : Bool} (h : crsE l ax ay bx by_ k = v) : crossB ax ay bx by_ (gx l k) (gy l k) (gx l ((k + 1) % l.length)) (gy l ((k + 1) % l.length)) = v := by
  rw [side_comm]; exact h











end Go.Proofs.Ytjccilpjaaiicaa
