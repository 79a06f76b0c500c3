/-
  What the laws over rooms share: a value that reads as the room l; the copy's and the comparison's contracts in these words.
-/
import Derived.Test.YtkdhgngpapfkdaaDoorMark
namespace Go.Proofs.YtkdhgngpapfkdaaDoor
open Go.RowKit

def IsRoom (l : List (Int × Int)) (v : Value) (w : World) : Prop := ∃ A c, v = .agg #[.slice A l.length c] ∧ RPts w A l

theorem IsRoom_stable (l : List (Int × Int)) : Stable (IsRoom l) := by
  rintro v w w' ⟨A, c, rfl, h⟩ hx
  exact ⟨A, c, rfl, h.ext hx⟩

theorem toRoom_is (A : Option Addr) (l : List (Int × Int)) (c : Nat) (w : World) (hp : RPts w A l) (hn : l.length ≤ 1048576) :
    Calls Tryd.prog 27 #[.agg #[.slice A l.length c]] w fun e w' => ∃ v, e = .returned v ∧ IsRoom l v w' ∧ Ext w w' :=
  (toRoom_any A l c w hp hn).mono fun _ _ ⟨A', he, ho, hx⟩ => ⟨_, he, ⟨A', _, rfl, ho.r (Nat.le_refl _)⟩, hx⟩

theorem eqRoom_is {l : List (Int × Int)} {v v' : Value} {w : World} (h : IsRoom l v w) (h' : IsRoom l v' w) (hn : l.length ≤ 1048576) :
    Calls Tryd.prog 29 #[v, v'] w fun e w' => e = .returned (.bool true) ∧ Ext w w' := by
  obtain ⟨A, c, rfl, ha⟩ := h
  obtain ⟨B, d, rfl, hb⟩ := h'
  exact eqRoom_same A B l c d w ha hb hn

end Go.Proofs.YtkdhgngpapfkdaaDoor
