/-
  Contracts: ReflexCorners.
-/
import Derived.Test.YtkdhgngpapfkdaaDoorCor
import Derived.Test.YtkdhgngpapfkdaaDoorInts
namespace Go.Proofs.YtkdhgngpapfkdaaDoor
open Go.RowKit

theorem info_int : (Tryd.prog.info? 3).map (fun i => (i.zero, i.size, i.bytes)) = some (some (.int .i64 0), 1, 8) := by kernel_rfl

/-- a new block's cells, as what an append takes -/
theorem news_alloc (w : World) (cs : List Value) (T : TypeId) : ∀ j u, cs[j]? = some u → (w.alloc (.cells cs.toArray T)).cell? ((⟨w.heap.size, 0, none⟩ : Addr).add j) = some u :=
  SLn.addr (fun j u hu => by
    have := heap_alloc_new w (.cells cs.toArray T)
    unfold World.cell?
    simp only [this]
    simpa using hu)

/-- the corners below k that are reflex -/
def reflL (l : List (Int × Int)) (k : Nat) : List Int := ((List.range k).filter (reflB l)).map fun (i : Nat) => (i : Int)
theorem reflL_succ (l : List (Int × Int)) (k : Nat) : reflL l (k + 1) = if reflB l k = true then reflL l k ++ [(k : Int)] else reflL l k := by
  unfold reflL
  rw [List.range_succ, List.filter_append, List.map_append]
  cases h : reflB l k <;> simp [h]
theorem reflL_le (l : List (Int × Int)) (k : Nat) : (reflL l k).length ≤ k := by
  unfold reflL
  rw [List.length_map]
  have := List.length_filter_le (reflB l) (List.range k)
  rwa [List.length_range] at this
/-- ReflexCorners, as both texts give it -/
def reflV (l : List (Int × Int)) : List Int := if roomB l = true then reflL l l.length else []
theorem reflV_le (l : List (Int × Int)) : (reflV l).length ≤ l.length := by
  unfold reflV
  split
  · exact reflL_le l _
  · simp

theorem ints_append (a b : List Int) : ints (a ++ b) = ints a ++ ints b := by simp [ints]

end Go.Proofs.YtkdhgngpapfkdaaDoor
