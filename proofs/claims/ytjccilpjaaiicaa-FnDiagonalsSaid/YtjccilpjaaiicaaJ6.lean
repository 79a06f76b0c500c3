/- 12 texts joined: TriF Floor Middle FloorM Conv Fto FlowD Merge SBlock Marks RowR Dbl. -/
import Derived.Test.YtjccilpjaaiicaaJ5
import Derived.Test.YtjccilpjaaiicaaJ4
import Derived.Test.YtjccilpjaaiicaaJ3
import Derived.Deep.RegionHeld3
import Derived.Test.YtjccilpjaaiicaaJ1
import Derived.Test.YtjccilpjaaiicaaJ2
namespace Go.Proofs.Ytjccilpjaaiicaa
namespace Jor

def ps : Int → Bool
  | .ofNat (_ + 1) => true
  | _ => false
theorem ps_iff (x : Int) : ps x = true ↔ 0 < x := by
  cases x with
  | ofNat n =>
    cases n with
    | zero => exact ⟨fun h => (by cases h), fun h => absurd h (by decide)⟩
    | succ n => exact ⟨fun _ => by simp, fun _ => rfl⟩
  | negSucc n => exact ⟨fun h => (by cases h), fun h => absurd h (by simp)⟩
def tq (a b c : P) : Bool := ps (turnZ a.1 a.2 b.1 b.2 c.1 c.2)
def nq (a b c : P) : Bool := neg (turnZ a.1 a.2 b.1 b.2 c.1 c.2)
def posB (l : List P) (t : T3) : Bool := tq (pt l t.1) (pt l t.2.1) (pt l t.2.2)
def negB (l : List P) (t : T3) : Bool := nq (pt l t.1) (pt l t.2.1) (pt l t.2.2)
/-- triangles to try -/
def cands : Nat → List (List T3)
  | 0 => [[(0, 1, 3), (1, 2, 3)], [(0, 2, 3), (0, 1, 2)]]
  | 1 => [[(0, 1, 2)]]
  | 2 => [[(0, 3, 5), (0, 1, 3), (1, 2, 3), (3, 4, 5)], [(0, 4, 5), (0, 3, 4), (0, 2, 3), (0, 1, 2)], [(0, 3, 5), (0, 2, 3), (0, 1, 2), (3, 4, 5)], [(0, 4, 5), (0, 3, 4), (0, 1, 3), (1, 2, 3)]]
  | 3 => [[(0, 3, 4), (0, 1, 3), (1, 2, 3)]]
  | 4 => [[(0, 5, 6), (0, 1, 5), (1, 3, 5), (1, 2, 3), (3, 4, 5)], [(0, 5, 6), (0, 3, 5), (0, 1, 3), (1, 2, 3), (3, 4, 5)]]
  | 5 => [[(0, 8, 9), (0, 1, 8), (1, 7, 8), (1, 2, 7), (2, 6, 7), (2, 3, 6), (3, 4, 6), (4, 5, 6)], [(0, 1, 9), (1, 8, 9), (1, 2, 8), (2, 7, 8), (2, 3, 7), (3, 6, 7), (3, 4, 6), (4, 5, 6)], [(0, 1, 9), (1, 8, 9), (1, 2, 8), (2, 7, 8), (2, 6, 7), (2, 3, 6), (3, 5, 6), (3, 4, 5)], [(0, 8, 9), (0, 1, 8), (1, 2, 8), (2, 7, 8), (2, 3, 7), (3, 6, 7), (3, 5, 6), (3, 4, 5)], [(0, 1, 9), (1, 8, 9), (1, 2, 8), (2, 7, 8), (2, 3, 7), (3, 5, 7), (3, 4, 5), (5, 6, 7)], [(0, 1, 9), (1, 8, 9), (1, 7, 8), (1, 2, 7), (2, 3, 7), (3, 6, 7), (3, 5, 6), (3, 4, 5)], [(0, 1, 9), (1, 8, 9), (1, 2, 8), (2, 7, 8), (2, 3, 7), (3, 4, 7), (4, 6, 7), (4, 5, 6)], [(0, 1, 9), (1, 8, 9), (1, 2, 8), (2, 7, 8), (2, 5, 7), (2, 3, 5), (3, 4, 5), (5, 6, 7)]]
  | 6 => [[(0, 1, 5), (1, 3, 5), (1, 2, 3), (3, 4, 5)], [(0, 1, 5), (1, 4, 5), (1, 3, 4), (1, 2, 3)], [(0, 1, 5), (1, 2, 5), (2, 3, 5), (3, 4, 5)], [(0, 3, 5), (0, 1, 3), (1, 2, 3), (3, 4, 5)]]
  | _ => [[(0, 1, 4), (1, 2, 4), (2, 3, 4)], [(0, 3, 4), (0, 1, 3), (1, 2, 3)], [(0, 2, 4), (0, 1, 2), (2, 3, 4)], [(0, 1, 4), (1, 3, 4), (1, 2, 3)]]
/-- the corners to try for one that sticks in -/
def rxs : Nat → List T3
  | 0 => [(0, 1, 2), (1, 2, 3), (2, 3, 0), (3, 0, 1)]
  | 1 => []
  | 2 => [(2, 3, 4), (0, 1, 2), (1, 2, 3), (3, 4, 5), (4, 5, 0), (5, 0, 1)]
  | 3 => [(2, 3, 4)]
  | 4 => [(2, 3, 4)]
  | 5 => [(7, 8, 9), (6, 7, 8), (5, 6, 7), (4, 5, 6), (0, 1, 2), (1, 2, 3), (2, 3, 4), (3, 4, 5), (8, 9, 0), (9, 0, 1)]
  | 6 => [(0, 1, 2), (2, 3, 4), (4, 5, 0), (1, 2, 3), (3, 4, 5), (5, 0, 1)]
  | _ => [(3, 4, 0), (0, 1, 2), (1, 2, 3), (2, 3, 4), (4, 0, 1)]
/-- walls and corners -/
def hxs : Nat → List T3
  | 0 => [(0, 1, 2), (0, 1, 3), (1, 2, 0), (1, 2, 3), (2, 3, 0), (2, 3, 1), (3, 0, 1), (3, 0, 2)]
  | 1 => [(0, 1, 2), (1, 2, 0), (2, 0, 1)]
  | 2 => [(0, 1, 2), (0, 1, 3), (0, 1, 4), (0, 1, 5), (1, 2, 0), (1, 2, 3), (1, 2, 4), (1, 2, 5), (2, 3, 0), (2, 3, 1), (2, 3, 4), (2, 3, 5), (3, 4, 0), (3, 4, 1), (3, 4, 2), (3, 4, 5), (4, 5, 0), (4, 5, 1), (4, 5, 2), (4, 5, 3), (5, 0, 1), (5, 0, 2), (5, 0, 3), (5, 0, 4)]
  | 3 => [(0, 0, 0)]
  | 4 => [(0, 0, 0)]
  | 5 => [(0, 0, 0)]
  | 6 => [(0, 0, 0)]
  | _ => [(0, 1, 2), (0, 1, 3), (0, 1, 4), (1, 2, 0), (1, 2, 3), (1, 2, 4), (2, 3, 0), (2, 3, 1), (2, 3, 4), (3, 4, 0), (3, 4, 1), (3, 4, 2), (4, 0, 1), (4, 0, 2), (4, 0, 3)]
def flatS (s : Nat) : Bool := s == 0 || (s == 1 || (s == 2 || s == 7))
/-- what the test says -/
def Good (s : Nat) (l : List P) : Prop := (cands s).any (fun ts => ts.all (posB l)) = true ∧ ((rxs s).any (negB l) || (flatS s && (hxs s).all (fun t => !negB l t))) = true
def tst0 : List P → Bool
  | [a0, a1, a2, a3] => cond (((tq a0 a1 a3 && (tq a1 a2 a3 && true)) || ((tq a0 a2 a3 && (tq a0 a1 a2 && true)) || false)) && ((nq a0 a1 a2 || (nq a1 a2 a3 || (nq a2 a3 a0 || (nq a3 a0 a1 || false)))) || (true && (!nq a0 a1 a2 && (!nq a0 a1 a3 && (!nq a1 a2 a0 && (!nq a1 a2 a3 && (!nq a2 a3 a0 && (!nq a2 a3 a1 && (!nq a3 a0 a1 && (!nq a3 a0 a2 && true))))))))))) true (badB [a0, a1, a2, a3])
  | _ => false
theorem tst0_sound {l : List P} (hl : l.length = 4) (h : tst0 l = true) : badB l = true ∨ Good 0 l := by
  rcases l with _ | ⟨a0, l⟩
  · simp at hl
  rcases l with _ | ⟨a1, l⟩
  · simp at hl
  rcases l with _ | ⟨a2, l⟩
  · simp at hl
  rcases l with _ | ⟨a3, l⟩
  · simp at hl
  rcases l with _ | ⟨a4, l⟩
  · unfold tst0 at h
    by_cases hg : Good 0 [a0, a1, a2, a3]
    · exact .inr hg
    · refine .inl ?_
      cases hc : (((tq a0 a1 a3 && (tq a1 a2 a3 && true)) || ((tq a0 a2 a3 && (tq a0 a1 a2 && true)) || false)) && ((nq a0 a1 a2 || (nq a1 a2 a3 || (nq a2 a3 a0 || (nq a3 a0 a1 || false)))) || (true && (!nq a0 a1 a2 && (!nq a0 a1 a3 && (!nq a1 a2 a0 && (!nq a1 a2 a3 && (!nq a2 a3 a0 && (!nq a2 a3 a1 && (!nq a3 a0 a1 && (!nq a3 a0 a2 && true)))))))))))
      · change cond (((tq a0 a1 a3 && (tq a1 a2 a3 && true)) || ((tq a0 a2 a3 && (tq a0 a1 a2 && true)) || false)) && ((nq a0 a1 a2 || (nq a1 a2 a3 || (nq a2 a3 a0 || (nq a3 a0 a1 || false)))) || (true && (!nq a0 a1 a2 && (!nq a0 a1 a3 && (!nq a1 a2 a0 && (!nq a1 a2 a3 && (!nq a2 a3 a0 && (!nq a2 a3 a1 && (!nq a3 a0 a1 && (!nq a3 a0 a2 && true))))))))))) true (badB [a0, a1, a2, a3]) = true at h
        rw [hc] at h
        exact h
      · exact absurd ((Bool.and_eq_true _ _).mp hc) hg
  · simp at hl
def tst1 : List P → Bool
  | [a0, a1, a2] => cond (((tq a0 a1 a2 && true) || false) && ((false) || (true && (!nq a0 a1 a2 && (!nq a1 a2 a0 && (!nq a2 a0 a1 && true)))))) true (badB [a0, a1, a2])
  | _ => false
theorem tst1_sound {l : List P} (hl : l.length = 3) (h : tst1 l = true) : badB l = true ∨ Good 1 l := by
  rcases l with _ | ⟨a0, l⟩
  · simp at hl
  rcases l with _ | ⟨a1, l⟩
  · simp at hl
  rcases l with _ | ⟨a2, l⟩
  · simp at hl
  rcases l with _ | ⟨a3, l⟩
  · unfold tst1 at h
    by_cases hg : Good 1 [a0, a1, a2]
    · exact .inr hg
    · refine .inl ?_
      cases hc : (((tq a0 a1 a2 && true) || false) && ((false) || (true && (!nq a0 a1 a2 && (!nq a1 a2 a0 && (!nq a2 a0 a1 && true))))))
      · change cond (((tq a0 a1 a2 && true) || false) && ((false) || (true && (!nq a0 a1 a2 && (!nq a1 a2 a0 && (!nq a2 a0 a1 && true)))))) true (badB [a0, a1, a2]) = true at h
        rw [hc] at h
        exact h
      · exact absurd ((Bool.and_eq_true _ _).mp hc) hg
  · simp at hl
def tst2 : List P → Bool
  | [a0, a1, a2, a3, a4, a5] => cond (((tq a0 a3 a5 && (tq a0 a1 a3 && (tq a1 a2 a3 && (tq a3 a4 a5 && true)))) || ((tq a0 a4 a5 && (tq a0 a3 a4 && (tq a0 a2 a3 && (tq a0 a1 a2 && true)))) || ((tq a0 a3 a5 && (tq a0 a2 a3 && (tq a0 a1 a2 && (tq a3 a4 a5 && true)))) || ((tq a0 a4 a5 && (tq a0 a3 a4 && (tq a0 a1 a3 && (tq a1 a2 a3 && true)))) || false)))) && ((nq a2 a3 a4 || (nq a0 a1 a2 || (nq a1 a2 a3 || (nq a3 a4 a5 || (nq a4 a5 a0 || (nq a5 a0 a1 || false)))))) || (true && (!nq a0 a1 a2 && (!nq a0 a1 a3 && (!nq a0 a1 a4 && (!nq a0 a1 a5 && (!nq a1 a2 a0 && (!nq a1 a2 a3 && (!nq a1 a2 a4 && (!nq a1 a2 a5 && (!nq a2 a3 a0 && (!nq a2 a3 a1 && (!nq a2 a3 a4 && (!nq a2 a3 a5 && (!nq a3 a4 a0 && (!nq a3 a4 a1 && (!nq a3 a4 a2 && (!nq a3 a4 a5 && (!nq a4 a5 a0 && (!nq a4 a5 a1 && (!nq a4 a5 a2 && (!nq a4 a5 a3 && (!nq a5 a0 a1 && (!nq a5 a0 a2 && (!nq a5 a0 a3 && (!nq a5 a0 a4 && true))))))))))))))))))))))))))) true (badB [a0, a1, a2, a3, a4, a5])
  | _ => false
theorem tst2_sound {l : List P} (hl : l.length = 6) (h : tst2 l = true) : badB l = true ∨ Good 2 l := by
  rcases l with _ | ⟨a0, l⟩
  · simp at hl
  rcases l with _ | ⟨a1, l⟩
  · simp at hl
  rcases l with _ | ⟨a2, l⟩
  · simp at hl
  rcases l with _ | ⟨a3, l⟩
  · simp at hl
  rcases l with _ | ⟨a4, l⟩
  · simp at hl
  rcases l with _ | ⟨a5, l⟩
  · simp at hl
  rcases l with _ | ⟨a6, l⟩
  · unfold tst2 at h
    by_cases hg : Good 2 [a0, a1, a2, a3, a4, a5]
    · exact .inr hg
    · refine .inl ?_
      cases hc : (((tq a0 a3 a5 && (tq a0 a1 a3 && (tq a1 a2 a3 && (tq a3 a4 a5 && true)))) || ((tq a0 a4 a5 && (tq a0 a3 a4 && (tq a0 a2 a3 && (tq a0 a1 a2 && true)))) || ((tq a0 a3 a5 && (tq a0 a2 a3 && (tq a0 a1 a2 && (tq a3 a4 a5 && true)))) || ((tq a0 a4 a5 && (tq a0 a3 a4 && (tq a0 a1 a3 && (tq a1 a2 a3 && true)))) || false)))) && ((nq a2 a3 a4 || (nq a0 a1 a2 || (nq a1 a2 a3 || (nq a3 a4 a5 || (nq a4 a5 a0 || (nq a5 a0 a1 || false)))))) || (true && (!nq a0 a1 a2 && (!nq a0 a1 a3 && (!nq a0 a1 a4 && (!nq a0 a1 a5 && (!nq a1 a2 a0 && (!nq a1 a2 a3 && (!nq a1 a2 a4 && (!nq a1 a2 a5 && (!nq a2 a3 a0 && (!nq a2 a3 a1 && (!nq a2 a3 a4 && (!nq a2 a3 a5 && (!nq a3 a4 a0 && (!nq a3 a4 a1 && (!nq a3 a4 a2 && (!nq a3 a4 a5 && (!nq a4 a5 a0 && (!nq a4 a5 a1 && (!nq a4 a5 a2 && (!nq a4 a5 a3 && (!nq a5 a0 a1 && (!nq a5 a0 a2 && (!nq a5 a0 a3 && (!nq a5 a0 a4 && true)))))))))))))))))))))))))))
      · change cond (((tq a0 a3 a5 && (tq a0 a1 a3 && (tq a1 a2 a3 && (tq a3 a4 a5 && true)))) || ((tq a0 a4 a5 && (tq a0 a3 a4 && (tq a0 a2 a3 && (tq a0 a1 a2 && true)))) || ((tq a0 a3 a5 && (tq a0 a2 a3 && (tq a0 a1 a2 && (tq a3 a4 a5 && true)))) || ((tq a0 a4 a5 && (tq a0 a3 a4 && (tq a0 a1 a3 && (tq a1 a2 a3 && true)))) || false)))) && ((nq a2 a3 a4 || (nq a0 a1 a2 || (nq a1 a2 a3 || (nq a3 a4 a5 || (nq a4 a5 a0 || (nq a5 a0 a1 || false)))))) || (true && (!nq a0 a1 a2 && (!nq a0 a1 a3 && (!nq a0 a1 a4 && (!nq a0 a1 a5 && (!nq a1 a2 a0 && (!nq a1 a2 a3 && (!nq a1 a2 a4 && (!nq a1 a2 a5 && (!nq a2 a3 a0 && (!nq a2 a3 a1 && (!nq a2 a3 a4 && (!nq a2 a3 a5 && (!nq a3 a4 a0 && (!nq a3 a4 a1 && (!nq a3 a4 a2 && (!nq a3 a4 a5 && (!nq a4 a5 a0 && (!nq a4 a5 a1 && (!nq a4 a5 a2 && (!nq a4 a5 a3 && (!nq a5 a0 a1 && (!nq a5 a0 a2 && (!nq a5 a0 a3 && (!nq a5 a0 a4 && true))))))))))))))))))))))))))) true (badB [a0, a1, a2, a3, a4, a5]) = true at h
        rw [hc] at h
        exact h
      · exact absurd ((Bool.and_eq_true _ _).mp hc) hg
  · simp at hl
def tst3 : List P → Bool
  | [a0, a1, a2, a3, a4] => cond (((tq a0 a3 a4 && (tq a0 a1 a3 && (tq a1 a2 a3 && true))) || false) && ((nq a2 a3 a4 || false) || (false && (!nq a0 a0 a0 && true)))) true (badB [a0, a1, a2, a3, a4])
  | _ => false
theorem tst3_sound {l : List P} (hl : l.length = 5) (h : tst3 l = true) : badB l = true ∨ Good 3 l := by
  rcases l with _ | ⟨a0, l⟩
  · simp at hl
  rcases l with _ | ⟨a1, l⟩
  · simp at hl
  rcases l with _ | ⟨a2, l⟩
  · simp at hl
  rcases l with _ | ⟨a3, l⟩
  · simp at hl
  rcases l with _ | ⟨a4, l⟩
  · simp at hl
  rcases l with _ | ⟨a5, l⟩
  · unfold tst3 at h
    by_cases hg : Good 3 [a0, a1, a2, a3, a4]
    · exact .inr hg
    · refine .inl ?_
      cases hc : (((tq a0 a3 a4 && (tq a0 a1 a3 && (tq a1 a2 a3 && true))) || false) && ((nq a2 a3 a4 || false) || (false && (!nq a0 a0 a0 && true))))
      · change cond (((tq a0 a3 a4 && (tq a0 a1 a3 && (tq a1 a2 a3 && true))) || false) && ((nq a2 a3 a4 || false) || (false && (!nq a0 a0 a0 && true)))) true (badB [a0, a1, a2, a3, a4]) = true at h
        rw [hc] at h
        exact h
      · exact absurd ((Bool.and_eq_true _ _).mp hc) hg
  · simp at hl
def tst4 : List P → Bool
  | [a0, a1, a2, a3, a4, a5, a6] => cond (((tq a0 a5 a6 && (tq a0 a1 a5 && (tq a1 a3 a5 && (tq a1 a2 a3 && (tq a3 a4 a5 && true))))) || ((tq a0 a5 a6 && (tq a0 a3 a5 && (tq a0 a1 a3 && (tq a1 a2 a3 && (tq a3 a4 a5 && true))))) || false)) && ((nq a2 a3 a4 || false) || (false && (!nq a0 a0 a0 && true)))) true (badB [a0, a1, a2, a3, a4, a5, a6])
  | _ => false
theorem tst4_sound {l : List P} (hl : l.length = 7) (h : tst4 l = true) : badB l = true ∨ Good 4 l := by
  rcases l with _ | ⟨a0, l⟩
  · simp at hl
  rcases l with _ | ⟨a1, l⟩
  · simp at hl
  rcases l with _ | ⟨a2, l⟩
  · simp at hl
  rcases l with _ | ⟨a3, l⟩
  · simp at hl
  rcases l with _ | ⟨a4, l⟩
  · simp at hl
  rcases l with _ | ⟨a5, l⟩
  · simp at hl
  rcases l with _ | ⟨a6, l⟩
  · simp at hl
  rcases l with _ | ⟨a7, l⟩
  · unfold tst4 at h
    by_cases hg : Good 4 [a0, a1, a2, a3, a4, a5, a6]
    · exact .inr hg
    · refine .inl ?_
      cases hc : (((tq a0 a5 a6 && (tq a0 a1 a5 && (tq a1 a3 a5 && (tq a1 a2 a3 && (tq a3 a4 a5 && true))))) || ((tq a0 a5 a6 && (tq a0 a3 a5 && (tq a0 a1 a3 && (tq a1 a2 a3 && (tq a3 a4 a5 && true))))) || false)) && ((nq a2 a3 a4 || false) || (false && (!nq a0 a0 a0 && true))))
      · change cond (((tq a0 a5 a6 && (tq a0 a1 a5 && (tq a1 a3 a5 && (tq a1 a2 a3 && (tq a3 a4 a5 && true))))) || ((tq a0 a5 a6 && (tq a0 a3 a5 && (tq a0 a1 a3 && (tq a1 a2 a3 && (tq a3 a4 a5 && true))))) || false)) && ((nq a2 a3 a4 || false) || (false && (!nq a0 a0 a0 && true)))) true (badB [a0, a1, a2, a3, a4, a5, a6]) = true at h
        rw [hc] at h
        exact h
      · exact absurd ((Bool.and_eq_true _ _).mp hc) hg
  · simp at hl
def tst5 : List P → Bool
  | [a0, a1, a2, a3, a4, a5, a6, a7, a8, a9] => cond (((tq a0 a8 a9 && (tq a0 a1 a8 && (tq a1 a7 a8 && (tq a1 a2 a7 && (tq a2 a6 a7 && (tq a2 a3 a6 && (tq a3 a4 a6 && (tq a4 a5 a6 && true)))))))) || ((tq a0 a1 a9 && (tq a1 a8 a9 && (tq a1 a2 a8 && (tq a2 a7 a8 && (tq a2 a3 a7 && (tq a3 a6 a7 && (tq a3 a4 a6 && (tq a4 a5 a6 && true)))))))) || ((tq a0 a1 a9 && (tq a1 a8 a9 && (tq a1 a2 a8 && (tq a2 a7 a8 && (tq a2 a6 a7 && (tq a2 a3 a6 && (tq a3 a5 a6 && (tq a3 a4 a5 && true)))))))) || ((tq a0 a8 a9 && (tq a0 a1 a8 && (tq a1 a2 a8 && (tq a2 a7 a8 && (tq a2 a3 a7 && (tq a3 a6 a7 && (tq a3 a5 a6 && (tq a3 a4 a5 && true)))))))) || ((tq a0 a1 a9 && (tq a1 a8 a9 && (tq a1 a2 a8 && (tq a2 a7 a8 && (tq a2 a3 a7 && (tq a3 a5 a7 && (tq a3 a4 a5 && (tq a5 a6 a7 && true)))))))) || ((tq a0 a1 a9 && (tq a1 a8 a9 && (tq a1 a7 a8 && (tq a1 a2 a7 && (tq a2 a3 a7 && (tq a3 a6 a7 && (tq a3 a5 a6 && (tq a3 a4 a5 && true)))))))) || ((tq a0 a1 a9 && (tq a1 a8 a9 && (tq a1 a2 a8 && (tq a2 a7 a8 && (tq a2 a3 a7 && (tq a3 a4 a7 && (tq a4 a6 a7 && (tq a4 a5 a6 && true)))))))) || ((tq a0 a1 a9 && (tq a1 a8 a9 && (tq a1 a2 a8 && (tq a2 a7 a8 && (tq a2 a5 a7 && (tq a2 a3 a5 && (tq a3 a4 a5 && (tq a5 a6 a7 && true)))))))) || false)))))))) && ((nq a7 a8 a9 || (nq a6 a7 a8 || (nq a5 a6 a7 || (nq a4 a5 a6 || (nq a0 a1 a2 || (nq a1 a2 a3 || (nq a2 a3 a4 || (nq a3 a4 a5 || (nq a8 a9 a0 || (nq a9 a0 a1 || false)))))))))) || (false && (!nq a0 a0 a0 && true)))) true (badB [a0, a1, a2, a3, a4, a5, a6, a7, a8, a9])
  | _ => false
theorem tst5_sound {l : List P} (hl : l.length = 10) (h : tst5 l = true) : badB l = true ∨ Good 5 l := by
  rcases l with _ | ⟨a0, l⟩
  · simp at hl
  rcases l with _ | ⟨a1, l⟩
  · simp at hl
  rcases l with _ | ⟨a2, l⟩
  · simp at hl
  rcases l with _ | ⟨a3, l⟩
  · simp at hl
  rcases l with _ | ⟨a4, l⟩
  · simp at hl
  rcases l with _ | ⟨a5, l⟩
  · simp at hl
  rcases l with _ | ⟨a6, l⟩
  · simp at hl
  rcases l with _ | ⟨a7, l⟩
  · simp at hl
  rcases l with _ | ⟨a8, l⟩
  · simp at hl
  rcases l with _ | ⟨a9, l⟩
  · simp at hl
  rcases l with _ | ⟨a10, l⟩
  · unfold tst5 at h
    by_cases hg : Good 5 [a0, a1, a2, a3, a4, a5, a6, a7, a8, a9]
    · exact .inr hg
    · refine .inl ?_
      cases hc : (((tq a0 a8 a9 && (tq a0 a1 a8 && (tq a1 a7 a8 && (tq a1 a2 a7 && (tq a2 a6 a7 && (tq a2 a3 a6 && (tq a3 a4 a6 && (tq a4 a5 a6 && true)))))))) || ((tq a0 a1 a9 && (tq a1 a8 a9 && (tq a1 a2 a8 && (tq a2 a7 a8 && (tq a2 a3 a7 && (tq a3 a6 a7 && (tq a3 a4 a6 && (tq a4 a5 a6 && true)))))))) || ((tq a0 a1 a9 && (tq a1 a8 a9 && (tq a1 a2 a8 && (tq a2 a7 a8 && (tq a2 a6 a7 && (tq a2 a3 a6 && (tq a3 a5 a6 && (tq a3 a4 a5 && true)))))))) || ((tq a0 a8 a9 && (tq a0 a1 a8 && (tq a1 a2 a8 && (tq a2 a7 a8 && (tq a2 a3 a7 && (tq a3 a6 a7 && (tq a3 a5 a6 && (tq a3 a4 a5 && true)))))))) || ((tq a0 a1 a9 && (tq a1 a8 a9 && (tq a1 a2 a8 && (tq a2 a7 a8 && (tq a2 a3 a7 && (tq a3 a5 a7 && (tq a3 a4 a5 && (tq a5 a6 a7 && true)))))))) || ((tq a0 a1 a9 && (tq a1 a8 a9 && (tq a1 a7 a8 && (tq a1 a2 a7 && (tq a2 a3 a7 && (tq a3 a6 a7 && (tq a3 a5 a6 && (tq a3 a4 a5 && true)))))))) || ((tq a0 a1 a9 && (tq a1 a8 a9 && (tq a1 a2 a8 && (tq a2 a7 a8 && (tq a2 a3 a7 && (tq a3 a4 a7 && (tq a4 a6 a7 && (tq a4 a5 a6 && true)))))))) || ((tq a0 a1 a9 && (tq a1 a8 a9 && (tq a1 a2 a8 && (tq a2 a7 a8 && (tq a2 a5 a7 && (tq a2 a3 a5 && (tq a3 a4 a5 && (tq a5 a6 a7 && true)))))))) || false)))))))) && ((nq a7 a8 a9 || (nq a6 a7 a8 || (nq a5 a6 a7 || (nq a4 a5 a6 || (nq a0 a1 a2 || (nq a1 a2 a3 || (nq a2 a3 a4 || (nq a3 a4 a5 || (nq a8 a9 a0 || (nq a9 a0 a1 || false)))))))))) || (false && (!nq a0 a0 a0 && true))))
      · change cond (((tq a0 a8 a9 && (tq a0 a1 a8 && (tq a1 a7 a8 && (tq a1 a2 a7 && (tq a2 a6 a7 && (tq a2 a3 a6 && (tq a3 a4 a6 && (tq a4 a5 a6 && true)))))))) || ((tq a0 a1 a9 && (tq a1 a8 a9 && (tq a1 a2 a8 && (tq a2 a7 a8 && (tq a2 a3 a7 && (tq a3 a6 a7 && (tq a3 a4 a6 && (tq a4 a5 a6 && true)))))))) || ((tq a0 a1 a9 && (tq a1 a8 a9 && (tq a1 a2 a8 && (tq a2 a7 a8 && (tq a2 a6 a7 && (tq a2 a3 a6 && (tq a3 a5 a6 && (tq a3 a4 a5 && true)))))))) || ((tq a0 a8 a9 && (tq a0 a1 a8 && (tq a1 a2 a8 && (tq a2 a7 a8 && (tq a2 a3 a7 && (tq a3 a6 a7 && (tq a3 a5 a6 && (tq a3 a4 a5 && true)))))))) || ((tq a0 a1 a9 && (tq a1 a8 a9 && (tq a1 a2 a8 && (tq a2 a7 a8 && (tq a2 a3 a7 && (tq a3 a5 a7 && (tq a3 a4 a5 && (tq a5 a6 a7 && true)))))))) || ((tq a0 a1 a9 && (tq a1 a8 a9 && (tq a1 a7 a8 && (tq a1 a2 a7 && (tq a2 a3 a7 && (tq a3 a6 a7 && (tq a3 a5 a6 && (tq a3 a4 a5 && true)))))))) || ((tq a0 a1 a9 && (tq a1 a8 a9 && (tq a1 a2 a8 && (tq a2 a7 a8 && (tq a2 a3 a7 && (tq a3 a4 a7 && (tq a4 a6 a7 && (tq a4 a5 a6 && true)))))))) || ((tq a0 a1 a9 && (tq a1 a8 a9 && (tq a1 a2 a8 && (tq a2 a7 a8 && (tq a2 a5 a7 && (tq a2 a3 a5 && (tq a3 a4 a5 && (tq a5 a6 a7 && true)))))))) || false)))))))) && ((nq a7 a8 a9 || (nq a6 a7 a8 || (nq a5 a6 a7 || (nq a4 a5 a6 || (nq a0 a1 a2 || (nq a1 a2 a3 || (nq a2 a3 a4 || (nq a3 a4 a5 || (nq a8 a9 a0 || (nq a9 a0 a1 || false)))))))))) || (false && (!nq a0 a0 a0 && true)))) true (badB [a0, a1, a2, a3, a4, a5, a6, a7, a8, a9]) = true at h
        rw [hc] at h
        exact h
      · exact absurd ((Bool.and_eq_true _ _).mp hc) hg
  · simp at hl
def tst6 : List P → Bool
  | [a0, a1, a2, a3, a4, a5] => cond (((tq a0 a1 a5 && (tq a1 a3 a5 && (tq a1 a2 a3 && (tq a3 a4 a5 && true)))) || ((tq a0 a1 a5 && (tq a1 a4 a5 && (tq a1 a3 a4 && (tq a1 a2 a3 && true)))) || ((tq a0 a1 a5 && (tq a1 a2 a5 && (tq a2 a3 a5 && (tq a3 a4 a5 && true)))) || ((tq a0 a3 a5 && (tq a0 a1 a3 && (tq a1 a2 a3 && (tq a3 a4 a5 && true)))) || false)))) && ((nq a0 a1 a2 || (nq a2 a3 a4 || (nq a4 a5 a0 || (nq a1 a2 a3 || (nq a3 a4 a5 || (nq a5 a0 a1 || false)))))) || (false && (!nq a0 a0 a0 && true)))) true (badB [a0, a1, a2, a3, a4, a5])
  | _ => false
theorem tst6_sound {l : List P} (hl : l.length = 6) (h : tst6 l = true) : badB l = true ∨ Good 6 l := by
  rcases l with _ | ⟨a0, l⟩
  · simp at hl
  rcases l with _ | ⟨a1, l⟩
  · simp at hl
  rcases l with _ | ⟨a2, l⟩
  · simp at hl
  rcases l with _ | ⟨a3, l⟩
  · simp at hl
  rcases l with _ | ⟨a4, l⟩
  · simp at hl
  rcases l with _ | ⟨a5, l⟩
  · simp at hl
  rcases l with _ | ⟨a6, l⟩
  · unfold tst6 at h
    by_cases hg : Good 6 [a0, a1, a2, a3, a4, a5]
    · exact .inr hg
    · refine .inl ?_
      cases hc : (((tq a0 a1 a5 && (tq a1 a3 a5 && (tq a1 a2 a3 && (tq a3 a4 a5 && true)))) || ((tq a0 a1 a5 && (tq a1 a4 a5 && (tq a1 a3 a4 && (tq a1 a2 a3 && true)))) || ((tq a0 a1 a5 && (tq a1 a2 a5 && (tq a2 a3 a5 && (tq a3 a4 a5 && true)))) || ((tq a0 a3 a5 && (tq a0 a1 a3 && (tq a1 a2 a3 && (tq a3 a4 a5 && true)))) || false)))) && ((nq a0 a1 a2 || (nq a2 a3 a4 || (nq a4 a5 a0 || (nq a1 a2 a3 || (nq a3 a4 a5 || (nq a5 a0 a1 || false)))))) || (false && (!nq a0 a0 a0 && true))))
      · change cond (((tq a0 a1 a5 && (tq a1 a3 a5 && (tq a1 a2 a3 && (tq a3 a4 a5 && true)))) || ((tq a0 a1 a5 && (tq a1 a4 a5 && (tq a1 a3 a4 && (tq a1 a2 a3 && true)))) || ((tq a0 a1 a5 && (tq a1 a2 a5 && (tq a2 a3 a5 && (tq a3 a4 a5 && true)))) || ((tq a0 a3 a5 && (tq a0 a1 a3 && (tq a1 a2 a3 && (tq a3 a4 a5 && true)))) || false)))) && ((nq a0 a1 a2 || (nq a2 a3 a4 || (nq a4 a5 a0 || (nq a1 a2 a3 || (nq a3 a4 a5 || (nq a5 a0 a1 || false)))))) || (false && (!nq a0 a0 a0 && true)))) true (badB [a0, a1, a2, a3, a4, a5]) = true at h
        rw [hc] at h
        exact h
      · exact absurd ((Bool.and_eq_true _ _).mp hc) hg
  · simp at hl
def tst7 : List P → Bool
  | [a0, a1, a2, a3, a4] => cond (((tq a0 a1 a4 && (tq a1 a2 a4 && (tq a2 a3 a4 && true))) || ((tq a0 a3 a4 && (tq a0 a1 a3 && (tq a1 a2 a3 && true))) || ((tq a0 a2 a4 && (tq a0 a1 a2 && (tq a2 a3 a4 && true))) || ((tq a0 a1 a4 && (tq a1 a3 a4 && (tq a1 a2 a3 && true))) || false)))) && ((nq a3 a4 a0 || (nq a0 a1 a2 || (nq a1 a2 a3 || (nq a2 a3 a4 || (nq a4 a0 a1 || false))))) || (true && (!nq a0 a1 a2 && (!nq a0 a1 a3 && (!nq a0 a1 a4 && (!nq a1 a2 a0 && (!nq a1 a2 a3 && (!nq a1 a2 a4 && (!nq a2 a3 a0 && (!nq a2 a3 a1 && (!nq a2 a3 a4 && (!nq a3 a4 a0 && (!nq a3 a4 a1 && (!nq a3 a4 a2 && (!nq a4 a0 a1 && (!nq a4 a0 a2 && (!nq a4 a0 a3 && true)))))))))))))))))) true (badB [a0, a1, a2, a3, a4])
  | _ => false
theorem tst7_sound {l : List P} (hl : l.length = 5) (h : tst7 l = true) : badB l = true ∨ Good 7 l := by
  rcases l with _ | ⟨a0, l⟩
  · simp at hl
  rcases l with _ | ⟨a1, l⟩
  · simp at hl
  rcases l with _ | ⟨a2, l⟩
  · simp at hl
  rcases l with _ | ⟨a3, l⟩
  · simp at hl
  rcases l with _ | ⟨a4, l⟩
  · simp at hl
  rcases l with _ | ⟨a5, l⟩
  · unfold tst7 at h
    by_cases hg : Good 7 [a0, a1, a2, a3, a4]
    · exact .inr hg
    · refine .inl ?_
      cases hc : (((tq a0 a1 a4 && (tq a1 a2 a4 && (tq a2 a3 a4 && true))) || ((tq a0 a3 a4 && (tq a0 a1 a3 && (tq a1 a2 a3 && true))) || ((tq a0 a2 a4 && (tq a0 a1 a2 && (tq a2 a3 a4 && true))) || ((tq a0 a1 a4 && (tq a1 a3 a4 && (tq a1 a2 a3 && true))) || false)))) && ((nq a3 a4 a0 || (nq a0 a1 a2 || (nq a1 a2 a3 || (nq a2 a3 a4 || (nq a4 a0 a1 || false))))) || (true && (!nq a0 a1 a2 && (!nq a0 a1 a3 && (!nq a0 a1 a4 && (!nq a1 a2 a0 && (!nq a1 a2 a3 && (!nq a1 a2 a4 && (!nq a2 a3 a0 && (!nq a2 a3 a1 && (!nq a2 a3 a4 && (!nq a3 a4 a0 && (!nq a3 a4 a1 && (!nq a3 a4 a2 && (!nq a4 a0 a1 && (!nq a4 a0 a2 && (!nq a4 a0 a3 && true))))))))))))))))))
      · change cond (((tq a0 a1 a4 && (tq a1 a2 a4 && (tq a2 a3 a4 && true))) || ((tq a0 a3 a4 && (tq a0 a1 a3 && (tq a1 a2 a3 && true))) || ((tq a0 a2 a4 && (tq a0 a1 a2 && (tq a2 a3 a4 && true))) || ((tq a0 a1 a4 && (tq a1 a3 a4 && (tq a1 a2 a3 && true))) || false)))) && ((nq a3 a4 a0 || (nq a0 a1 a2 || (nq a1 a2 a3 || (nq a2 a3 a4 || (nq a4 a0 a1 || false))))) || (true && (!nq a0 a1 a2 && (!nq a0 a1 a3 && (!nq a0 a1 a4 && (!nq a1 a2 a0 && (!nq a1 a2 a3 && (!nq a1 a2 a4 && (!nq a2 a3 a0 && (!nq a2 a3 a1 && (!nq a2 a3 a4 && (!nq a3 a4 a0 && (!nq a3 a4 a1 && (!nq a3 a4 a2 && (!nq a4 a0 a1 && (!nq a4 a0 a2 && (!nq a4 a0 a3 && true)))))))))))))))))) true (badB [a0, a1, a2, a3, a4]) = true at h
        rw [hc] at h
        exact h
      · exact absurd ((Bool.and_eq_true _ _).mp hc) hg
  · simp at hl

end Jor
end Go.Proofs.Ytjccilpjaaiicaa

namespace Go.Proofs.Ytjccilpjaaiicaa
open Go.RowKit

/-- a block of two numbers, whole -/
def Two (w : World) (b : Nat) (T : TypeId) (x y : Int) : Prop := w.heap[b]? = some (.cells #[.int .i64 x, .int .i64 y] T (0, 0))
theorem Two.set {w : World} {b : Nat} {T : TypeId} {x y : Int} (h : Two w b T x y) (x' y' : Int) : Two ((w.setCell ⟨b, 0, none⟩ (.int .i64 x')).setCell ⟨b, 1, none⟩ (.int .i64 y')) b T x' y' := by
  unfold Two at *
  simp [World.setCell, Array.getElem?_modify, h]
theorem Two.other {w : World} {b g o : Nat} {T : TypeId} {x y : Int} {v : Value} (h : Two w b T x y) (hg : g ≠ b) : Two (w.setCell ⟨g, o, none⟩ v) b T x y := (Below.heap_setCell _ _ _ _ (fun e => hg e.symm)).trans h
theorem Two.ext {w w' : World} {b : Nat} {T : TypeId} {x y : Int} (h : Two w b T x y) (hx : Ext w w') : Two w' b T x y := (hx.below.block b (heap_lt h)).trans h
theorem Two.cells {w : World} {b : Nat} {T : TypeId} {x y : Int} (h : Two w b T x y) : b < w.heap.size ∧ w.cell? ⟨b, 0, none⟩ = some (.int .i64 x) ∧ w.cell? ⟨b, 1, none⟩ = some (.int .i64 y) ∧ w.frozen? ⟨b, 0, none⟩ = false ∧ w.frozen? ⟨b, 1, none⟩ = false :=
  ⟨heap_lt h, by rw [blk_cell h]; rfl, by rw [blk_cell h]; rfl, blk_free h 0, blk_free h 1⟩
theorem Two.new (w : World) (T : TypeId) (x y : Int) : Two (w.alloc (.cells #[.int .i64 x, .int .i64 y] T)) w.heap.size T x y := heap_alloc_new w _

theorem two_fst (w : World) (o : Obj) (T : TypeId) (x y : Int) : Two ((((w.alloc o).alloc (.cells #[.int .i64 x, .int .i64 y] T)).alloc (.cells #[.int .i64 x, .int .i64 y] T)).drew) (w.heap.size + 1) T x y := by
  have h := Two.new (w.alloc o) T x y
  have e : (w.alloc o).heap.size = w.heap.size + 1 := by simp
  rw [e] at h
  exact h.ext (Ext.drew (Ext.alloc (Ext.refl _) _))
theorem two_snd (w : World) (o : Obj) (T : TypeId) (x y : Int) : Two ((((w.alloc o).alloc (.cells #[.int .i64 x, .int .i64 y] T)).alloc (.cells #[.int .i64 x, .int .i64 y] T)).drew) (w.heap.size + 1 + 1) T x y := by
  have h := Two.new ((w.alloc o).alloc (.cells #[.int .i64 x, .int .i64 y] T)) T x y
  have e : ((w.alloc o).alloc (.cells #[.int .i64 x, .int .i64 y] T)).heap.size = w.heap.size + 1 + 1 := by simp
  rw [e] at h
  exact h.ext (Ext.drew (Ext.refl _))


set_option maxRecDepth 100000 in
set_option maxHeartbeats 8000000 in
theorem floor_any (A : Option Addr) (l : List (Int × Int)) (c : Nat) (w : World) (hp : RPts w A l) (hr : roomB l = true) :
    Calls Try.prog 24 #[.agg #[.slice A l.length c]] w (RetP 28 (floorL l) w) := by
  obtain ⟨hf, h3⟩ := roomB_fine hr
  have h10 := hf.2
  have hn : l.length ≤ 1048576 := by omega
  obtain ⟨i0, hI, hZ, hS, hY⟩ := info_parts info_ipt
  obtain ⟨b, off, rfl⟩ := hp.some_ (by omega)
  have HB : Hid (∀ w', Ext (w.alloc (.cells #[.slice (some ⟨b, off, none⟩) l.length c] 26)) w' → w'.cell? ⟨w.heap.size, 0, none⟩ = some (.slice (some ⟨b, off, none⟩) l.length c) ∧ w.heap.size < w'.heap.size) := fun w' hx => by
    and_intros <;> (first | (have hz := hx.size; simp at hz; omega) | ((first | rw [hx.cells _ _ (by first | (simp; done) | (simp; omega))] | rw [hx.frozens _ _ (by first | (simp; done) | (simp; omega))]); (first | (simp [go_sem]; done) | (simp [go_sem, World.cell?_alloc_past]; done) | (simp [go_sem, World.frozen?]; done))))
  have hbd := fun k hk => box_bd hf (show 0 < l.length by omega) k hk
  have HBD := hide hbd
  clear hbd
  obtain ⟨hz, hx0, hy0⟩ := hp.cell (show 0 < l.length by omega)
  simp only [Nat.zero_mul, Nat.add_zero] at hx0 hy0
  have hne : l ≠ [] := fun e => by rw [e] at h3; simp at h3
  have hzz : b < (w.alloc (.cells #[.slice (some ⟨b, off, none⟩) l.length c] 26)).heap.size := by simp; omega
  have hl0 : 0 < l.length := by omega
  have hl1 : (0 : Int) < (l.length : Int) := by omega
  have g1 : b < w.heap.size + 1 := by omega
  have g2 : b < w.heap.size + 1 + 1 := by omega
  have g3 : b < w.heap.size + 1 + 1 + 1 := by omega
  go_enter Try.func24, Try.ntmps24
  go_wp2
  go_region_held3 (fun w' => w'.cell? ⟨w.heap.size, 0, none⟩ = some (.slice (some ⟨b, off, none⟩) l.length c) ∧ w'.cell? ⟨b, off, none⟩ = some (.int .i64 (gx l 0)) ∧ w'.cell? ⟨b, off + 1, none⟩ = some (.int .i64 (gy l 0))) (simp [*, go_sem, World.cell?_alloc_past, World.cell?_alloc_some]) (fail)
  · have k1 : Two (((w.alloc (.cells #[.slice (some ⟨b, off, none⟩) l.length c] 26)).alloc (.cells #[.int .i64 (gx l 0), .int .i64 (gy l 0)] 28)).alloc (.cells #[.int .i64 (gx l 0), .int .i64 (gy l 0)] 28)).drew (w.heap.size + 1) 28 (gx l 0) (gy l 0) := two_fst _ _ _ _ _
    have k2 : Two (((w.alloc (.cells #[.slice (some ⟨b, off, none⟩) l.length c] 26)).alloc (.cells #[.int .i64 (gx l 0), .int .i64 (gy l 0)] 28)).alloc (.cells #[.int .i64 (gx l 0), .int .i64 (gy l 0)] 28)).drew (w.heap.size + 1 + 1) 28 (gx l 0) (gy l 0) := two_snd _ _ _ _ _
    have dne : w.heap.size + 1 ≠ w.heap.size + 1 + 1 := by omega
    have xa : Ext (w.alloc (.cells #[.slice (some ⟨b, off, none⟩) l.length c] 26)) (((w.alloc (.cells #[.slice (some ⟨b, off, none⟩) l.length c] 26)).alloc (.cells #[.int .i64 (gx l 0), .int .i64 (gy l 0)] 28)).alloc (.cells #[.int .i64 (gx l 0), .int .i64 (gy l 0)] 28)).drew := by (repeat (first | exact Ext.refl _ | assumption | apply Ext.alloc | apply Ext.drew | apply Ext.drewN | (refine Ext.trans ?_ (by assumption))))
    have sa : w.heap.size + 1 + 1 < (((w.alloc (.cells #[.slice (some ⟨b, off, none⟩) l.length c] 26)).alloc (.cells #[.int .i64 (gx l 0), .int .i64 (gy l 0)] 28)).alloc (.cells #[.int .i64 (gx l 0), .int .i64 (gy l 0)] 28)).drew.heap.size := by simp
    have T1 : Two (((w.alloc (.cells #[.slice (some ⟨b, off, none⟩) l.length c] 26)).alloc (.cells #[.int .i64 (gx l 0), .int .i64 (gy l 0)] 28)).alloc (.cells #[.int .i64 (gx l 0), .int .i64 (gy l 0)] 28)).drew (w.heap.size + 1) 28 (gx l 0) (gy l 0) := by first | exact k1 | exact k2
    have T2 : Two (((w.alloc (.cells #[.slice (some ⟨b, off, none⟩) l.length c] 26)).alloc (.cells #[.int .i64 (gx l 0), .int .i64 (gy l 0)] 28)).alloc (.cells #[.int .i64 (gx l 0), .int .i64 (gy l 0)] 28)).drew (w.heap.size + 1 + 1) 28 (gx l 0) (gy l 0) := by first | exact k1 | exact k2
    clear k1 k2 hx0 hy0 hz hzz g1 g2 g3
    generalize (((w.alloc (.cells #[.slice (some ⟨b, off, none⟩) l.length c] 26)).alloc (.cells #[.int .i64 (gx l 0), .int .i64 (gy l 0)] 28)).alloc (.cells #[.int .i64 (gx l 0), .int .i64 (gy l 0)] 28)).drew = wa at xa sa T1 T2 ⊢
    have f0 := HB.out wa xa
    go_wp2
    clear f0
    go_loopw [22] (fun i wr => ∃ k : Nat, k ≤ l.length ∧ i = .int .i64 k ∧ Ext (w.alloc (.cells #[.slice (some ⟨b, off, none⟩) l.length c] 26)) wr ∧ w.heap.size + 1 + 1 < wr.heap.size ∧ Two wr (w.heap.size + 1) 28 (loX l k) (loY l k) ∧ Two wr (w.heap.size + 1 + 1) 28 (hiX l k) (hiY l k)) (fun i _ => l.length - (intOf i).toNat)
    case atStart => exact ⟨0, Nat.zero_le _, rfl, xa, sa, T1, T2⟩
    case round =>
      obtain ⟨k, hk, rfl, hbl, hsz, u1, u2⟩ := hrel
      obtain ⟨wq, rfl⟩ : ∃ wq : World, wq = wr := ⟨_, rfl⟩
      clear xa sa T1 T2
      have fb := HB.out wq hbl
      obtain ⟨a1, a2, a3, a4, a5⟩ := u1.cells
      obtain ⟨c1, c2, c3, c4, c5⟩ := u2.cells
      by_cases hlt : k < l.length
      · obtain ⟨hzq, hxk, hyk⟩ := (hp.ext (by (repeat (first | exact Ext.refl _ | assumption | apply Ext.alloc | apply Ext.drew | apply Ext.drewN | (refine Ext.trans ?_ (by assumption)))) : Ext w wq)).cell hlt
        go_wp2
        go_roundw
        case rel => exact ⟨k + 1, by omega, by go_num, by (repeat (first | exact Ext.refl _ | assumption | apply Ext.alloc | apply Ext.drew | apply Ext.drewN | (refine Ext.setCell ?_ (by simp; done) _) | (refine Ext.setCell ?_ (by simp; omega) _) | (refine Ext.trans ?_ (by assumption)))), by simp [size_setCell]; omega, by rw [loX_succ, loY_succ]; exact (((u1.set _ _).other (by first | exact dne | exact dne.symm)).other (by first | exact dne | exact dne.symm)).ext ((Ext.refl _).alloc _), by rw [hiX_succ, hiY_succ]; exact (((u2.other (by first | exact dne | exact dne.symm)).other (by first | exact dne | exact dne.symm)).set _ _).ext ((Ext.refl _).alloc _)⟩
        case measure => simp [intOf]; omega
      · have e : k = l.length := by omega
        subst e
        obtain ⟨⟨r1, r2⟩, ⟨r3, r4⟩, ⟨r5, r6⟩, ⟨r7, r8⟩, r9, r10⟩ := HBD.out l.length (Nat.le_refl _)
        obtain ⟨nx, hnx⟩ : ∃ nx : Nat, nx = (hiX l l.length - loX l l.length + 1).toNat := ⟨_, rfl⟩
        obtain ⟨ny, hny⟩ : ∃ ny : Nat, ny = (hiY l l.length - loY l l.length + 1).toNat := ⟨_, rfl⟩
        have HF := hide (show floorL l = rowsL l (loY l l.length) (loX l l.length) nx ny by rw [hnx, hny]; rfl)
        have nx1 : (nx : Int) = hiX l l.length - loX l l.length + 1 := by omega
        have ny1 : (ny : Int) = hiY l l.length - loY l l.length + 1 := by omega
        have NX := hide nx1
        have NY := hide ny1
        have nx2 : nx ≤ 81 := by omega
        have ny2 : ny ≤ 81 := by omega
        clear hnx hny nx1 ny1 hk hlt
        generalize loX l l.length = x0 at *
        generalize loY l l.length = y0 at *
        generalize hiX l l.length = x1 at *
        generalize hiY l l.length = y1 at *
        go_wp2
        go_loopw [7, 8] (fun out y wr => ∃ (j : Nat) (o : Value), j ≤ ny ∧ y = .int .i64 (y0 + j) ∧ o = out ∧ Ext wq wr ∧ wr.ownsRow wq.heap.size 28 2 o (rowsL l y0 x0 nx j).length (flat (rowsL l y0 x0 nx j))) (fun _ y _ => (y1 - intOf y + 1).toNat)
        case atStart => exact ⟨0, _, Nat.zero_le _, by simp, rfl, by (repeat (first | exact Ext.refl _ | assumption | apply Ext.alloc | apply Ext.drew | apply Ext.drewN | (refine Ext.trans ?_ (by assumption)))), rfl, .inr ⟨wq.heap.size, 0, #[], rfl, Nat.le_refl _, heap_alloc_new wq _, Nat.le_refl _, by unfold maxLen; omega, rfl, rfl⟩⟩
        case round =>
          obtain ⟨j, o, hj, rfl, ho, hbj, hown⟩ := hrel
          subst ho
          obtain ⟨wj, rfl⟩ : ∃ wj : World, wj = wr := ⟨_, rfl⟩
          obtain ⟨a1, a2, a3, a4, a5⟩ := (u1.ext hbj).cells
          obtain ⟨c1, c2, c3, c4, c5⟩ := (u2.ext hbj).cells
          have hle1 := rowsL_le l y0 x0 nx j
          have hle2 : j * nx ≤ 81 * 81 := Nat.mul_le_mul (by omega) nx2
          by_cases hjl : j < ny
          · have hyj : y0 + (j : Int) ≤ y1 := by have := NY.out; omega
            go_wp2
            go_loopw [7, 9] (fun out x wr => ∃ (i : Nat) (o : Value), i ≤ nx ∧ x = .int .i64 (x0 + i) ∧ o = out ∧ Ext wq wr ∧ wr.ownsRow wq.heap.size 28 2 o (rowsL l y0 x0 nx j ++ rowL l (y0 + j) x0 i).length (flat (rowsL l y0 x0 nx j ++ rowL l (y0 + j) x0 i))) (fun _ x _ => (x1 - intOf x + 1).toNat)
            case atStart => exact ⟨0, _, Nat.zero_le _, by simp, rfl, by (repeat (first | exact Ext.refl _ | assumption | apply Ext.alloc | apply Ext.drew | apply Ext.drewN | (refine Ext.trans ?_ (by assumption)))), by simpa [rowL] using hown⟩
            case round =>
              obtain ⟨i, o, hi, rfl, ho, hbi, hown2⟩ := hrel
              subst ho
              obtain ⟨wi, rfl⟩ : ∃ wi : World, wi = wr := ⟨_, rfl⟩
              obtain ⟨a1, a2, a3, a4, a5⟩ := (u1.ext hbi).cells
              obtain ⟨c1, c2, c3, c4, c5⟩ := (u2.ext hbi).cells
              have fbi := HB.out wi (by (repeat (first | exact Ext.refl _ | assumption | apply Ext.alloc | apply Ext.drew | apply Ext.drewN | (refine Ext.trans ?_ (by assumption)))))
              have hle3 := rowL_le l (y0 + j) x0 i
              by_cases hil : i < nx
              · have hxi : x0 + (i : Int) ≤ x1 := by have := NX.out; omega
                have HQ : Hid (∀ w', Ext (wi.alloc (.cells #[.int .i64 (x0 + i), .int .i64 (y0 + j)] 28)) w' → w'.cell? ⟨wi.heap.size, 0, none⟩ = some (.int .i64 (x0 + i)) ∧ w'.cell? ⟨wi.heap.size, 1, none⟩ = some (.int .i64 (y0 + j)) ∧ wi.heap.size < w'.heap.size) := fun w' hx => by
                  and_intros <;> (first | (have hz := hx.size; simp at hz; omega) | ((first | rw [hx.cells _ _ (by first | (simp; done) | (simp; omega))] | rw [hx.frozens _ _ (by first | (simp; done) | (simp; omega))]); (first | (simp [go_sem]; done) | (simp [go_sem, World.cell?_alloc_past]; done) | (simp [go_sem, World.frozen?]; done))))
                cases hv : (placeV l (x0 + i) (y0 + j) != 0)
                · have HS := hide (show rowL l (y0 + j) x0 (i + 1) = rowL l (y0 + j) x0 i by rw [rowL_succ, hv]; rfl)
                  go_wp2_with (go_at_call 42; refine (place_any _ _ _ _ _ _ (hp.ext (by (repeat (first | exact Ext.refl _ | assumption | apply Ext.alloc | apply Ext.drew | apply Ext.drewN | (refine Ext.trans ?_ (by assumption)))))) hn).mono ?_; rintro e w1 ⟨rfl, hb1⟩)
                  go_roundw
                  case rel => exact ⟨i + 1, _, by omega, by go_num, rfl, by (repeat (first | exact Ext.refl _ | assumption | apply Ext.alloc | apply Ext.drew | apply Ext.drewN | (refine Ext.trans ?_ (by assumption)))), by rw [HS.out]; exact ownsRow_ext hown2 (by (repeat (first | exact Ext.refl _ | assumption | apply Ext.alloc | apply Ext.drew | apply Ext.drewN | (refine Ext.trans ?_ (by assumption)))))⟩
                  case measure => simp [intOf]; omega
                · have HS := hide (show rowL l (y0 + j) x0 (i + 1) = rowL l (y0 + j) x0 i ++ [(x0 + i, y0 + j)] by rw [rowL_succ, hv]; rfl)
                  go_wp2_with (first | (go_at_call 42; refine (place_any _ _ _ _ _ _ (hp.ext (by (repeat (first | exact Ext.refl _ | assumption | apply Ext.alloc | apply Ext.drew | apply Ext.drewN | (refine Ext.trans ?_ (by assumption)))))) hn).mono ?_; rintro e w1 ⟨rfl, hb1⟩; have fq := HQ.out w1 (by (repeat (first | exact Ext.refl _ | assumption | apply Ext.alloc | apply Ext.drew | apply Ext.drewN | (refine Ext.trans ?_ (by assumption))))); have hsz1 := (show Ext wq w1 by (repeat (first | exact Ext.refl _ | assumption | apply Ext.alloc | apply Ext.drew | apply Ext.drewN | (refine Ext.trans ?_ (by assumption))))).size) | (at_builtin; refine wpList_app _ rfl (.tmp 74) (.tmp 76) _ rfl wq.heap.size 28 i0 _ 2 16 Try.underlying24 hI hZ hS hY rfl (by omega) _ _ (flat (rowsL l y0 x0 nx j ++ rowL l (y0 + j) x0 i)) (by rfl) (ownsRow_ext hown2 (by (repeat (first | exact Ext.refl _ | assumption | apply Ext.alloc | apply Ext.drew | apply Ext.drewN | (refine Ext.trans ?_ (by assumption)))))) ⟨w1.heap.size, 0, none⟩ 1 1 [.int .i64 (x0 + i), .int .i64 (y0 + j)] (by rfl) rfl (news_alloc w1 [.int .i64 (x0 + i), .int .i64 (y0 + j)] 28) (by simp [Value.oneCell']) (by unfold maxLen; rw [List.length_append]; omega) (by rw [List.length_append]; omega) (by simp; omega) ?_; intro v' w3 hown3 hg3 _))
                  have hx3 : Ext wq w3 := ext_grown (show Ext wq (w1.alloc (.cells #[.int .i64 (x0 + i), .int .i64 (y0 + j)] 28)) by (repeat (first | exact Ext.refl _ | assumption | apply Ext.alloc | apply Ext.drew | apply Ext.drewN | (refine Ext.trans ?_ (by assumption))))) hg3 (fun q hq => (hown2.lt q hq).1)
                  clear hown hown2 hg3
                  go_wp2
                  go_roundw
                  case rel => exact ⟨i + 1, _, by omega, by go_num, rfl, hx3, by rw [HS.out, ← List.append_assoc, flat_append, List.length_append]; exact hown3⟩
                  case measure => simp [intOf]; omega
              · have e : i = nx := by omega
                have E := hide e
                have hxi : ¬ x0 + (i : Int) ≤ x1 := by have := NX.out; omega
                clear e
                go_wp2
                go_roundw
                case rel => exact ⟨j + 1, _, by omega, by go_num, rfl, by (repeat (first | exact Ext.refl _ | assumption | apply Ext.alloc | apply Ext.drew | apply Ext.drewN | (refine Ext.trans ?_ (by assumption)))), by rw [rowsL_succ]; have h := hown2; rw [E.out] at h; exact h⟩
                case measure => simp [intOf]; omega
          · have e : j = ny := by omega
            have E := hide e
            have hyj : ¬ y0 + (j : Int) ≤ y1 := by have := NY.out; omega
            clear e
            obtain ⟨A', c', rfl⟩ := ownsRow_slice hown
            go_wp2
            go_ret
            rw [E.out] at hown
            exact ⟨A', c', by rw [HF.out, E.out]; rfl, by rw [HF.out]; exact (OwnS.of_own hown).2.more (by omega) (Nat.le_refl _), by (repeat (first | exact Ext.refl _ | assumption | apply Ext.alloc | apply Ext.drew | apply Ext.drewN | (refine Ext.trans ?_ (by assumption))))⟩
  · have k1 : Two (((w.alloc (.cells #[.slice (some ⟨b, off, none⟩) l.length c] 26)).alloc (.cells #[.int .i64 (gx l 0), .int .i64 (gy l 0)] 28)).alloc (.cells #[.int .i64 (gx l 0), .int .i64 (gy l 0)] 28)).drew (w.heap.size + 1) 28 (gx l 0) (gy l 0) := two_fst _ _ _ _ _
    have k2 : Two (((w.alloc (.cells #[.slice (some ⟨b, off, none⟩) l.length c] 26)).alloc (.cells #[.int .i64 (gx l 0), .int .i64 (gy l 0)] 28)).alloc (.cells #[.int .i64 (gx l 0), .int .i64 (gy l 0)] 28)).drew (w.heap.size + 1 + 1) 28 (gx l 0) (gy l 0) := two_snd _ _ _ _ _
    have dne : w.heap.size + 1 ≠ w.heap.size + 1 + 1 := by omega
    have xa : Ext (w.alloc (.cells #[.slice (some ⟨b, off, none⟩) l.length c] 26)) (((w.alloc (.cells #[.slice (some ⟨b, off, none⟩) l.length c] 26)).alloc (.cells #[.int .i64 (gx l 0), .int .i64 (gy l 0)] 28)).alloc (.cells #[.int .i64 (gx l 0), .int .i64 (gy l 0)] 28)).drew := by (repeat (first | exact Ext.refl _ | assumption | apply Ext.alloc | apply Ext.drew | apply Ext.drewN | (refine Ext.trans ?_ (by assumption))))
    have sa : w.heap.size + 1 + 1 < (((w.alloc (.cells #[.slice (some ⟨b, off, none⟩) l.length c] 26)).alloc (.cells #[.int .i64 (gx l 0), .int .i64 (gy l 0)] 28)).alloc (.cells #[.int .i64 (gx l 0), .int .i64 (gy l 0)] 28)).drew.heap.size := by simp
    have T1 : Two (((w.alloc (.cells #[.slice (some ⟨b, off, none⟩) l.length c] 26)).alloc (.cells #[.int .i64 (gx l 0), .int .i64 (gy l 0)] 28)).alloc (.cells #[.int .i64 (gx l 0), .int .i64 (gy l 0)] 28)).drew (w.heap.size + 1 + 1) 28 (gx l 0) (gy l 0) := by first | exact k1 | exact k2
    have T2 : Two (((w.alloc (.cells #[.slice (some ⟨b, off, none⟩) l.length c] 26)).alloc (.cells #[.int .i64 (gx l 0), .int .i64 (gy l 0)] 28)).alloc (.cells #[.int .i64 (gx l 0), .int .i64 (gy l 0)] 28)).drew (w.heap.size + 1) 28 (gx l 0) (gy l 0) := by first | exact k1 | exact k2
    clear k1 k2 hx0 hy0 hz hzz g1 g2 g3
    generalize (((w.alloc (.cells #[.slice (some ⟨b, off, none⟩) l.length c] 26)).alloc (.cells #[.int .i64 (gx l 0), .int .i64 (gy l 0)] 28)).alloc (.cells #[.int .i64 (gx l 0), .int .i64 (gy l 0)] 28)).drew = wa at xa sa T1 T2 ⊢
    have f0 := HB.out wa xa
    go_wp2
    clear f0
    go_loopw [22] (fun i wr => ∃ k : Nat, k ≤ l.length ∧ i = .int .i64 k ∧ Ext (w.alloc (.cells #[.slice (some ⟨b, off, none⟩) l.length c] 26)) wr ∧ w.heap.size + 1 + 1 < wr.heap.size ∧ Two wr (w.heap.size + 1 + 1) 28 (loX l k) (loY l k) ∧ Two wr (w.heap.size + 1) 28 (hiX l k) (hiY l k)) (fun i _ => l.length - (intOf i).toNat)
    case atStart => exact ⟨0, Nat.zero_le _, rfl, xa, sa, T1, T2⟩
    case round =>
      obtain ⟨k, hk, rfl, hbl, hsz, u1, u2⟩ := hrel
      obtain ⟨wq, rfl⟩ : ∃ wq : World, wq = wr := ⟨_, rfl⟩
      clear xa sa T1 T2
      have fb := HB.out wq hbl
      obtain ⟨a1, a2, a3, a4, a5⟩ := u1.cells
      obtain ⟨c1, c2, c3, c4, c5⟩ := u2.cells
      by_cases hlt : k < l.length
      · obtain ⟨hzq, hxk, hyk⟩ := (hp.ext (by (repeat (first | exact Ext.refl _ | assumption | apply Ext.alloc | apply Ext.drew | apply Ext.drewN | (refine Ext.trans ?_ (by assumption)))) : Ext w wq)).cell hlt
        go_wp2
        go_roundw
        case rel => exact ⟨k + 1, by omega, by go_num, by (repeat (first | exact Ext.refl _ | assumption | apply Ext.alloc | apply Ext.drew | apply Ext.drewN | (refine Ext.setCell ?_ (by simp; done) _) | (refine Ext.setCell ?_ (by simp; omega) _) | (refine Ext.trans ?_ (by assumption)))), by simp [size_setCell]; omega, by rw [loX_succ, loY_succ]; exact (((u1.set _ _).other (by first | exact dne | exact dne.symm)).other (by first | exact dne | exact dne.symm)).ext ((Ext.refl _).alloc _), by rw [hiX_succ, hiY_succ]; exact (((u2.other (by first | exact dne | exact dne.symm)).other (by first | exact dne | exact dne.symm)).set _ _).ext ((Ext.refl _).alloc _)⟩
        case measure => simp [intOf]; omega
      · have e : k = l.length := by omega
        subst e
        obtain ⟨⟨r1, r2⟩, ⟨r3, r4⟩, ⟨r5, r6⟩, ⟨r7, r8⟩, r9, r10⟩ := HBD.out l.length (Nat.le_refl _)
        obtain ⟨nx, hnx⟩ : ∃ nx : Nat, nx = (hiX l l.length - loX l l.length + 1).toNat := ⟨_, rfl⟩
        obtain ⟨ny, hny⟩ : ∃ ny : Nat, ny = (hiY l l.length - loY l l.length + 1).toNat := ⟨_, rfl⟩
        have HF := hide (show floorL l = rowsL l (loY l l.length) (loX l l.length) nx ny by rw [hnx, hny]; rfl)
        have nx1 : (nx : Int) = hiX l l.length - loX l l.length + 1 := by omega
        have ny1 : (ny : Int) = hiY l l.length - loY l l.length + 1 := by omega
        have NX := hide nx1
        have NY := hide ny1
        have nx2 : nx ≤ 81 := by omega
        have ny2 : ny ≤ 81 := by omega
        clear hnx hny nx1 ny1 hk hlt
        generalize loX l l.length = x0 at *
        generalize loY l l.length = y0 at *
        generalize hiX l l.length = x1 at *
        generalize hiY l l.length = y1 at *
        go_wp2
        go_loopw [7, 8] (fun out y wr => ∃ (j : Nat) (o : Value), j ≤ ny ∧ y = .int .i64 (y0 + j) ∧ o = out ∧ Ext wq wr ∧ wr.ownsRow wq.heap.size 28 2 o (rowsL l y0 x0 nx j).length (flat (rowsL l y0 x0 nx j))) (fun _ y _ => (y1 - intOf y + 1).toNat)
        case atStart => exact ⟨0, _, Nat.zero_le _, by simp, rfl, by (repeat (first | exact Ext.refl _ | assumption | apply Ext.alloc | apply Ext.drew | apply Ext.drewN | (refine Ext.trans ?_ (by assumption)))), rfl, .inr ⟨wq.heap.size, 0, #[], rfl, Nat.le_refl _, heap_alloc_new wq _, Nat.le_refl _, by unfold maxLen; omega, rfl, rfl⟩⟩
        case round =>
          obtain ⟨j, o, hj, rfl, ho, hbj, hown⟩ := hrel
          subst ho
          obtain ⟨wj, rfl⟩ : ∃ wj : World, wj = wr := ⟨_, rfl⟩
          obtain ⟨a1, a2, a3, a4, a5⟩ := (u1.ext hbj).cells
          obtain ⟨c1, c2, c3, c4, c5⟩ := (u2.ext hbj).cells
          have hle1 := rowsL_le l y0 x0 nx j
          have hle2 : j * nx ≤ 81 * 81 := Nat.mul_le_mul (by omega) nx2
          by_cases hjl : j < ny
          · have hyj : y0 + (j : Int) ≤ y1 := by have := NY.out; omega
            go_wp2
            go_loopw [7, 9] (fun out x wr => ∃ (i : Nat) (o : Value), i ≤ nx ∧ x = .int .i64 (x0 + i) ∧ o = out ∧ Ext wq wr ∧ wr.ownsRow wq.heap.size 28 2 o (rowsL l y0 x0 nx j ++ rowL l (y0 + j) x0 i).length (flat (rowsL l y0 x0 nx j ++ rowL l (y0 + j) x0 i))) (fun _ x _ => (x1 - intOf x + 1).toNat)
            case atStart => exact ⟨0, _, Nat.zero_le _, by simp, rfl, by (repeat (first | exact Ext.refl _ | assumption | apply Ext.alloc | apply Ext.drew | apply Ext.drewN | (refine Ext.trans ?_ (by assumption)))), by simpa [rowL] using hown⟩
            case round =>
              obtain ⟨i, o, hi, rfl, ho, hbi, hown2⟩ := hrel
              subst ho
              obtain ⟨wi, rfl⟩ : ∃ wi : World, wi = wr := ⟨_, rfl⟩
              obtain ⟨a1, a2, a3, a4, a5⟩ := (u1.ext hbi).cells
              obtain ⟨c1, c2, c3, c4, c5⟩ := (u2.ext hbi).cells
              have fbi := HB.out wi (by (repeat (first | exact Ext.refl _ | assumption | apply Ext.alloc | apply Ext.drew | apply Ext.drewN | (refine Ext.trans ?_ (by assumption)))))
              have hle3 := rowL_le l (y0 + j) x0 i
              by_cases hil : i < nx
              · have hxi : x0 + (i : Int) ≤ x1 := by have := NX.out; omega
                have HQ : Hid (∀ w', Ext (wi.alloc (.cells #[.int .i64 (x0 + i), .int .i64 (y0 + j)] 28)) w' → w'.cell? ⟨wi.heap.size, 0, none⟩ = some (.int .i64 (x0 + i)) ∧ w'.cell? ⟨wi.heap.size, 1, none⟩ = some (.int .i64 (y0 + j)) ∧ wi.heap.size < w'.heap.size) := fun w' hx => by
                  and_intros <;> (first | (have hz := hx.size; simp at hz; omega) | ((first | rw [hx.cells _ _ (by first | (simp; done) | (simp; omega))] | rw [hx.frozens _ _ (by first | (simp; done) | (simp; omega))]); (first | (simp [go_sem]; done) | (simp [go_sem, World.cell?_alloc_past]; done) | (simp [go_sem, World.frozen?]; done))))
                cases hv : (placeV l (x0 + i) (y0 + j) != 0)
                · have HS := hide (show rowL l (y0 + j) x0 (i + 1) = rowL l (y0 + j) x0 i by rw [rowL_succ, hv]; rfl)
                  go_wp2_with (go_at_call 42; refine (place_any _ _ _ _ _ _ (hp.ext (by (repeat (first | exact Ext.refl _ | assumption | apply Ext.alloc | apply Ext.drew | apply Ext.drewN | (refine Ext.trans ?_ (by assumption)))))) hn).mono ?_; rintro e w1 ⟨rfl, hb1⟩)
                  go_roundw
                  case rel => exact ⟨i + 1, _, by omega, by go_num, rfl, by (repeat (first | exact Ext.refl _ | assumption | apply Ext.alloc | apply Ext.drew | apply Ext.drewN | (refine Ext.trans ?_ (by assumption)))), by rw [HS.out]; exact ownsRow_ext hown2 (by (repeat (first | exact Ext.refl _ | assumption | apply Ext.alloc | apply Ext.drew | apply Ext.drewN | (refine Ext.trans ?_ (by assumption)))))⟩
                  case measure => simp [intOf]; omega
                · have HS := hide (show rowL l (y0 + j) x0 (i + 1) = rowL l (y0 + j) x0 i ++ [(x0 + i, y0 + j)] by rw [rowL_succ, hv]; rfl)
                  go_wp2_with (first | (go_at_call 42; refine (place_any _ _ _ _ _ _ (hp.ext (by (repeat (first | exact Ext.refl _ | assumption | apply Ext.alloc | apply Ext.drew | apply Ext.drewN | (refine Ext.trans ?_ (by assumption)))))) hn).mono ?_; rintro e w1 ⟨rfl, hb1⟩; have fq := HQ.out w1 (by (repeat (first | exact Ext.refl _ | assumption | apply Ext.alloc | apply Ext.drew | apply Ext.drewN | (refine Ext.trans ?_ (by assumption))))); have hsz1 := (show Ext wq w1 by (repeat (first | exact Ext.refl _ | assumption | apply Ext.alloc | apply Ext.drew | apply Ext.drewN | (refine Ext.trans ?_ (by assumption))))).size) | (at_builtin; refine wpList_app _ rfl (.tmp 74) (.tmp 76) _ rfl wq.heap.size 28 i0 _ 2 16 Try.underlying24 hI hZ hS hY rfl (by omega) _ _ (flat (rowsL l y0 x0 nx j ++ rowL l (y0 + j) x0 i)) (by rfl) (ownsRow_ext hown2 (by (repeat (first | exact Ext.refl _ | assumption | apply Ext.alloc | apply Ext.drew | apply Ext.drewN | (refine Ext.trans ?_ (by assumption)))))) ⟨w1.heap.size, 0, none⟩ 1 1 [.int .i64 (x0 + i), .int .i64 (y0 + j)] (by rfl) rfl (news_alloc w1 [.int .i64 (x0 + i), .int .i64 (y0 + j)] 28) (by simp [Value.oneCell']) (by unfold maxLen; rw [List.length_append]; omega) (by rw [List.length_append]; omega) (by simp; omega) ?_; intro v' w3 hown3 hg3 _))
                  have hx3 : Ext wq w3 := ext_grown (show Ext wq (w1.alloc (.cells #[.int .i64 (x0 + i), .int .i64 (y0 + j)] 28)) by (repeat (first | exact Ext.refl _ | assumption | apply Ext.alloc | apply Ext.drew | apply Ext.drewN | (refine Ext.trans ?_ (by assumption))))) hg3 (fun q hq => (hown2.lt q hq).1)
                  clear hown hown2 hg3
                  go_wp2
                  go_roundw
                  case rel => exact ⟨i + 1, _, by omega, by go_num, rfl, hx3, by rw [HS.out, ← List.append_assoc, flat_append, List.length_append]; exact hown3⟩
                  case measure => simp [intOf]; omega
              · have e : i = nx := by omega
                have E := hide e
                have hxi : ¬ x0 + (i : Int) ≤ x1 := by have := NX.out; omega
                clear e
                go_wp2
                go_roundw
                case rel => exact ⟨j + 1, _, by omega, by go_num, rfl, by (repeat (first | exact Ext.refl _ | assumption | apply Ext.alloc | apply Ext.drew | apply Ext.drewN | (refine Ext.trans ?_ (by assumption)))), by rw [rowsL_succ]; have h := hown2; rw [E.out] at h; exact h⟩
                case measure => simp [intOf]; omega
          · have e : j = ny := by omega
            have E := hide e
            have hyj : ¬ y0 + (j : Int) ≤ y1 := by have := NY.out; omega
            clear e
            obtain ⟨A', c', rfl⟩ := ownsRow_slice hown
            go_wp2
            go_ret
            rw [E.out] at hown
            exact ⟨A', c', by rw [HF.out, E.out]; rfl, by rw [HF.out]; exact (OwnS.of_own hown).2.more (by omega) (Nat.le_refl _), by (repeat (first | exact Ext.refl _ | assumption | apply Ext.alloc | apply Ext.drew | apply Ext.drewN | (refine Ext.trans ?_ (by assumption))))⟩

end Go.Proofs.Ytjccilpjaaiicaa

namespace Go.Proofs.Ytjccilpjaaiicaa
open Go.RowKit

theorem two_wrap {x y : Int} (h : pok x y = true) : IntKind.i64.wrap (2 * x) = 2 * x ∧ IntKind.i64.wrap (2 * y) = 2 * y := by
  have := within_of_pok h
  unfold within at this
  exact ⟨wrap_in _ (by omega) (by omega), wrap_in _ (by omega) (by omega)⟩
theorem sum_wrap {ax ay bx by_ : Int} (ha : pok ax ay = true) (hb : pok bx by_ = true) : IntKind.i64.wrap (ax + bx) = ax + bx ∧ IntKind.i64.wrap (ay + by_) = ay + by_ := by
  have h1 := within_of_pok ha
  have h2 := within_of_pok hb
  unfold within at h1 h2
  exact ⟨wrap_in _ (by omega) (by omega), wrap_in _ (by omega) (by omega)⟩

theorem twice_any (x y : Int) (w : World) (h : pok x y = true) :
    Calls Try.prog 63 #[.agg #[.int .i64 x, .int .i64 y]] w fun e w' => e = .returned (.agg #[.int .i64 (2 * x), .int .i64 (2 * y)]) ∧ Ext w w' := by
  obtain ⟨q1, q2⟩ := two_wrap h
  rw [IntKind.wrap_i64] at q1 q2
  go_enter Try.func63, Try.ntmps63
  go_wp2
  exact bodyPost_ret (v := .agg #[.int .i64 (2 * x), .int .i64 (2 * y)]) (by simp [results, Try.results63, go_sem, q1, q2]) rfl ⟨rfl, by (repeat (first | exact Ext.refl _ | assumption | apply Ext.alloc | apply Ext.drew | apply Ext.drewN | (refine Ext.setCell ?_ (by simp; done) _) | (refine Ext.setCell ?_ (by simp; omega) _) | (refine Ext.trans ?_ (by assumption))))⟩

theorem flat_snoc (l : List (Int × Int)) (x y : Int) : flat (l ++ [(x, y)]) = flat l ++ [.int .i64 x, .int .i64 y] := flat_append l [(x, y)]

set_option maxRecDepth 100000 in
set_option maxHeartbeats 3200000 in
theorem middle_any (A : Option Addr) (l : List (Int × Int)) (c : Nat) (ax ay bx by_ : Int) (w : World) (hp : RPts w A l) (hr : roomB l = true) (ha : pok ax ay = true) (hb : pok bx by_ = true) :
    Calls Try.prog 44 #[.agg #[.slice A l.length c], .agg #[.int .i64 ax, .int .i64 ay], .agg #[.int .i64 bx, .int .i64 by_]] w fun e w' => e = .returned (.int .i64 (midP l ax ay bx by_)) ∧ Ext w w' := by
  obtain ⟨hf, h3⟩ := roomB_fine hr
  have h10 := hf.2
  obtain ⟨b, off, rfl⟩ := hp.some_ (by omega)
  have HF := hide hf
  clear hf
  obtain ⟨i0, hI, hZ, hS, hY⟩ := info_parts info_ipt
  obtain ⟨s1, s2⟩ := sum_wrap ha hb
  rw [IntKind.wrap_i64] at s1 s2
  have HB : Hid (∀ w', Ext (((w.alloc (.cells #[.slice (some ⟨b, off, none⟩) l.length c] 26)).alloc (.cells #[.int .i64 ax, .int .i64 ay] 28)).alloc (.cells #[.int .i64 bx, .int .i64 by_] 28)) w' → w'.cell? ⟨w.heap.size, 0, none⟩ = some (.slice (some ⟨b, off, none⟩) l.length c) ∧ w.heap.size < w'.heap.size ∧ w'.cell? ⟨w.heap.size + 1, 0, none⟩ = some (.int .i64 ax) ∧ w'.cell? ⟨w.heap.size + 1, 1, none⟩ = some (.int .i64 ay) ∧ w.heap.size + 1 < w'.heap.size ∧ w'.cell? ⟨w.heap.size + 1 + 1, 0, none⟩ = some (.int .i64 bx) ∧ w'.cell? ⟨w.heap.size + 1 + 1, 1, none⟩ = some (.int .i64 by_) ∧ w.heap.size + 1 + 1 < w'.heap.size) := fun w' hx => by
    and_intros <;> (first | (have hz := hx.size; simp at hz; omega) | ((first | rw [hx.cells _ _ (by first | (simp; done) | (simp; omega))] | rw [hx.frozens _ _ (by first | (simp; done) | (simp; omega))]); (first | (simp [go_sem]; done) | (simp [go_sem, World.cell?_alloc_past]; done) | (simp [go_sem, World.frozen?]; done))))
  clear ha hb hr
  go_enter Try.func44, Try.ntmps44
  go_wp2
  go_loopw [7, 14] (fun out i wr => ∃ (k : Nat) (o : Value), k ≤ l.length ∧ i = .int .i64 k ∧ o = out ∧ Ext (((w.alloc (.cells #[.slice (some ⟨b, off, none⟩) l.length c] 26)).alloc (.cells #[.int .i64 ax, .int .i64 ay] 28)).alloc (.cells #[.int .i64 bx, .int .i64 by_] 28)) wr ∧ wr.ownsRow (w.heap.size + 1 + 1 + 1) 28 2 o k (flat (dblTo l k))) (fun _ i _ => l.length - (intOf i).toNat)
  case atStart => exact ⟨0, _, Nat.zero_le _, rfl, rfl, by (repeat (first | exact Ext.refl _ | assumption | apply Ext.alloc | apply Ext.drew | apply Ext.drewN | (refine Ext.trans ?_ (by assumption)))), rfl, .inr ⟨w.heap.size + 1 + 1 + 1, 0, #[], by simp, Nat.le_refl _, by have h := heap_alloc_new (((w.alloc (.cells #[.slice (some ⟨b, off, none⟩) l.length c] 26)).alloc (.cells #[.int .i64 ax, .int .i64 ay] 28)).alloc (.cells #[.int .i64 bx, .int .i64 by_] 28)) (.cells #[] 28); simpa using h, Nat.le_refl _, by unfold maxLen; omega, rfl, rfl⟩⟩
  case round =>
    obtain ⟨k, o, hk, rfl, ho, hbl, hown⟩ := hrel
    subst ho
    obtain ⟨wq, rfl⟩ : ∃ wq : World, wq = wr := ⟨_, rfl⟩
    have fb := HB.out wq (by (repeat (first | exact Ext.refl _ | assumption | apply Ext.alloc | apply Ext.drew | apply Ext.drewN | (refine Ext.trans ?_ (by assumption)))))
    by_cases hlt : k < l.length
    · have q2 : (k : Int) < (l.length : Int) := by omega
      obtain ⟨hz, hx, hy⟩ := (hp.ext (show Ext w wq by (repeat (first | exact Ext.refl _ | assumption | apply Ext.alloc | apply Ext.drew | apply Ext.drewN | (refine Ext.trans ?_ (by assumption)))))).cell hlt
      have hpk := HF.out.pok hlt
      have HS := hide (dblTo_succ hlt)
      go_wp2_with (first | (go_at_call 63; refine (twice_any _ _ _ hpk).mono ?_; rintro e w1 ⟨rfl, hb1⟩; have hsz1 := (show Ext (((w.alloc (.cells #[.slice (some ⟨b, off, none⟩) l.length c] 26)).alloc (.cells #[.int .i64 ax, .int .i64 ay] 28)).alloc (.cells #[.int .i64 bx, .int .i64 by_] 28)) w1 by (repeat (first | exact Ext.refl _ | assumption | apply Ext.alloc | apply Ext.drew | apply Ext.drewN | (refine Ext.trans ?_ (by assumption))))).size; simp at hsz1) | (at_builtin; refine wpList_app _ rfl (.tmp 18) (.tmp 21) _ rfl (w.heap.size + 1 + 1 + 1) 28 i0 _ 2 16 Try.underlying24 hI hZ hS hY rfl (by omega) _ k (flat (dblTo l k)) (by rfl) (ownsRow_ext hown (by (repeat (first | exact Ext.refl _ | assumption | apply Ext.alloc | apply Ext.drew | apply Ext.drewN | (refine Ext.trans ?_ (by assumption)))))) ⟨w1.heap.size, 0, none⟩ 1 1 [.int .i64 (2 * gx l k), .int .i64 (2 * gy l k)] (by rfl) rfl (news_alloc w1 [.int .i64 (2 * gx l k), .int .i64 (2 * gy l k)] 28) (by simp [Value.oneCell']) (by unfold maxLen; omega) (by omega) (by simp; omega) ?_; intro v' w3 hown3 hg3 _))
      have hx3 : Ext (((w.alloc (.cells #[.slice (some ⟨b, off, none⟩) l.length c] 26)).alloc (.cells #[.int .i64 ax, .int .i64 ay] 28)).alloc (.cells #[.int .i64 bx, .int .i64 by_] 28)) w3 := ext_grown (show Ext (((w.alloc (.cells #[.slice (some ⟨b, off, none⟩) l.length c] 26)).alloc (.cells #[.int .i64 ax, .int .i64 ay] 28)).alloc (.cells #[.int .i64 bx, .int .i64 by_] 28)) (w1.alloc (.cells #[.int .i64 (2 * gx l k), .int .i64 (2 * gy l k)] 28)) by (repeat (first | exact Ext.refl _ | assumption | apply Ext.alloc | apply Ext.drew | apply Ext.drewN | (refine Ext.trans ?_ (by assumption))))) hg3 (fun q hq => by have := (hown.lt q hq).1; simp; omega)
      clear hown hg3
      go_wp2
      go_roundw
      case rel => exact ⟨k + 1, _, by omega, by go_num, rfl, by (repeat (first | exact Ext.refl _ | assumption | apply Ext.alloc | apply Ext.drew | apply Ext.drewN | (refine Ext.trans ?_ (by assumption)))), by rw [HS.out, flat_snoc]; exact hown3⟩
      case measure => simp [intOf]; omega
    · have e : k = l.length := by omega
      have q2 : ¬ (k : Int) < (l.length : Int) := by omega
      have E := hide e
      clear e
      obtain ⟨A', c', rfl⟩ := ownsRow_slice hown
      have hown' := hown
      rw [E.out] at hown'
      have hO := (OwnS.of_own (l := dblTo l l.length) hown').2
      have HL := hide (dbl_length l)
      have HR := hide (show RPts wq A' (dbl l) from hO.r (Nat.le_refl _))
      clear hO hown hown'
      go_wp2_with (go_at_call 42; rw [show (Value.slice A' k c') = .slice A' (dbl l).length c' by rw [HL.out, E.out]]; refine (place_any _ _ _ _ _ _ (HR.out.ext (by (repeat (first | exact Ext.refl _ | assumption | apply Ext.alloc | apply Ext.drew | apply Ext.drewN | (refine Ext.trans ?_ (by assumption)))))) (by rw [HL.out]; omega)).mono ?_; rintro e w2 ⟨rfl, hb2⟩)
      go_ret
      exact ⟨rfl, by (repeat (first | exact Ext.refl _ | assumption | apply Ext.alloc | apply Ext.drew | apply Ext.drewN | (refine Ext.trans ?_ (by assumption))))⟩

end Go.Proofs.Ytjccilpjaaiicaa

namespace Go.Proofs.Ytjccilpjaaiicaa
open Go.RowKit

theorem row_mem {l : List (Int × Int)} {y x : Int} {p : Int × Int} : ∀ n : Nat, p ∈ rowL l y x n ↔ (x ≤ p.1 ∧ p.1 < x + n) ∧ p.2 = y ∧ (placeV l p.1 p.2 != 0) = true
  | 0 => by
    constructor
    · intro h; cases h
    · intro h; omega
  | n + 1 => by
    have ih := row_mem (l := l) (y := y) (x := x) (p := p) n
    rw [rowL_succ]
    split
    · rename_i hv
      rw [List.mem_append, ih, List.mem_singleton]
      constructor
      · rintro (⟨h1, h2, h3⟩ | rfl)
        · exact ⟨by omega, h2, h3⟩
        · exact ⟨⟨by show x ≤ x + (n : Int); omega, by show x + (n : Int) < x + ((n + 1 : Nat) : Int); omega⟩, rfl, hv⟩
      · rintro ⟨h1, h2, h3⟩
        by_cases e : p.1 = x + n
        · exact .inr (Prod.ext e h2)
        · exact .inl ⟨by omega, h2, h3⟩
    · rename_i hv
      rw [ih]
      constructor
      · rintro ⟨h1, h2, h3⟩; exact ⟨by omega, h2, h3⟩
      · rintro ⟨h1, h2, h3⟩
        refine ⟨?_, h2, h3⟩
        by_cases e : p.1 = x + n
        · rw [e, h2] at h3; exact absurd h3 hv
        · omega
theorem rows_mem {l : List (Int × Int)} {y x : Int} {m : Nat} {p : Int × Int} : ∀ n : Nat, p ∈ rowsL l y x m n ↔ (x ≤ p.1 ∧ p.1 < x + m) ∧ (y ≤ p.2 ∧ p.2 < y + n) ∧ (placeV l p.1 p.2 != 0) = true
  | 0 => by
    constructor
    · intro h; cases h
    · intro h; omega
  | n + 1 => by
    have ih := rows_mem (l := l) (y := y) (x := x) (m := m) (p := p) n
    rw [rowsL_succ, List.mem_append, ih, row_mem]
    constructor
    · rintro (⟨h1, h2, h3⟩ | ⟨h1, h2, h3⟩)
      · exact ⟨h1, by omega, h3⟩
      · exact ⟨h1, by omega, h3⟩
    · rintro ⟨h1, h2, h3⟩
      by_cases e : p.2 = y + n
      · exact .inr ⟨h1, e, h3⟩
      · exact .inl ⟨h1, by omega, h3⟩
/-- the floor's points: just the points in the room's box that are not outside -/
theorem floor_mem {l : List (Int × Int)} {p : Int × Int} : p ∈ floorL l ↔ (loX l l.length ≤ p.1 ∧ p.1 ≤ hiX l l.length) ∧ (loY l l.length ≤ p.2 ∧ p.2 ≤ hiY l l.length) ∧ (placeV l p.1 p.2 != 0) = true := by
  unfold floorL
  rw [rows_mem]
  constructor
  · rintro ⟨h1, h2, h3⟩; exact ⟨by omega, by omega, h3⟩
  · rintro ⟨h1, h2, h3⟩; exact ⟨by omega, by omega, h3⟩
/-- the floor's points are points of the map -/
theorem floor_pok {l : List (Int × Int)} (hr : roomB l = true) : ∀ p, p ∈ floorL l → pok p.1 p.2 = true := by
  obtain ⟨hf, h3⟩ := roomB_fine hr
  have hb := box_bd hf (show 0 < l.length by omega) l.length (Nat.le_refl _)
  intro p hp
  have := floor_mem.1 hp
  rw [pok_iff]
  omega

end Go.Proofs.Ytjccilpjaaiicaa

namespace Go.Proofs.Ytjccilpjaaiicaa
open Go.RowKit

/-- IsConvex, as both texts give it -/
def convV (l : List (Int × Int)) : Bool := roomB l && (((reflV l).length : Int) == 0)
/-- TurnSum, as both texts give it -/
def turnSumV (l : List (Int × Int)) : Int := if roomB l = true then (l.length : Int) - 2 * ((reflV l).length : Int) else 0

theorem IsConvex_any (A : Option Addr) (l : List (Int × Int)) (c : Nat) (w : World) (hp : RPts w A l) (hn : l.length ≤ 1048576) :
    Calls Try.prog 10 #[.agg #[.slice A l.length c]] w fun e w' => e = .returned (.bool (convV l)) ∧ Ext w w' := by
  have HB : Hid (∀ w', Ext (w.alloc (.cells #[.slice A l.length c] 26)) w' → w'.cell? ⟨w.heap.size, 0, none⟩ = some (.slice A l.length c) ∧ w.heap.size < w'.heap.size) := fun w' hx => by
    and_intros <;> (first | (have hz := hx.size; simp at hz; omega) | ((first | rw [hx.cells _ _ (by first | (simp; done) | (simp; omega))] | rw [hx.frozens _ _ (by first | (simp; done) | (simp; omega))]); (first | (simp [go_sem]; done) | (simp [go_sem, World.cell?_alloc_past]; done) | (simp [go_sem, World.frozen?]; done))))
  unfold convV
  have hle := reflV_le l
  generalize hx : reflV l = x at hle
  have HX := hide hx
  clear hx
  cases hr : roomB l
  · go_enter Try.func10, Try.ntmps10
    go_wp2_with ((go_at_call 17; refine (RoomOk_any _ _ _ _ (hp.ext (by (repeat (first | exact Ext.refl _ | assumption | apply Ext.alloc | apply Ext.drew | apply Ext.drewN | (refine Ext.trans ?_ (by assumption)))))) hn).mono ?_; rintro e w1 ⟨rfl, hb⟩; have hcc := HB.out w1 (by (repeat (first | exact Ext.refl _ | assumption | apply Ext.alloc | apply Ext.drew | apply Ext.drewN | (refine Ext.trans ?_ (by assumption)))))))
    go_ret
    exact ⟨rfl, by (repeat (first | exact Ext.refl _ | assumption | apply Ext.alloc | apply Ext.drew | apply Ext.drewN | (refine Ext.trans ?_ (by assumption))))⟩
  · have hxl : x.length ≤ 1048576 := by omega
    go_enter Try.func10, Try.ntmps10
    go_wp2_with (first | (go_at_call 17; refine (RoomOk_any _ _ _ _ (hp.ext (by (repeat (first | exact Ext.refl _ | assumption | apply Ext.alloc | apply Ext.drew | apply Ext.drewN | (refine Ext.trans ?_ (by assumption)))))) hn).mono ?_; rintro e w1 ⟨rfl, hb⟩; have hcc := HB.out w1 (by (repeat (first | exact Ext.refl _ | assumption | apply Ext.alloc | apply Ext.drew | apply Ext.drewN | (refine Ext.trans ?_ (by assumption)))))) | (go_at_call 25; refine (ReflexCorners_any _ _ _ _ (hp.ext (by (repeat (first | exact Ext.refl _ | assumption | apply Ext.alloc | apply Ext.drew | apply Ext.drewN | (refine Ext.trans ?_ (by assumption)))))) hn).mono ?_; rw [HX.out]; rintro e w2 ⟨A', c', rfl, ho, hb2⟩))
    go_ret
    exact ⟨ret_bool (by simp), by (repeat (first | exact Ext.refl _ | assumption | apply Ext.alloc | apply Ext.drew | apply Ext.drewN | (refine Ext.trans ?_ (by assumption))))⟩

/-- a slice of n elements -/
def IsLen (n : Nat) (v : Value) (_ : World) : Prop := ∃ A c, v = .slice A n c
theorem IsLen_stable (n : Nat) : Stable (IsLen n) := fun _ _ _ h _ => h

end Go.Proofs.Ytjccilpjaaiicaa

namespace Go.Proofs.Ytjccilpjaaiicaa

/-- one of the first k points of f is (x, y) -/
def fto (f : List (Int × Int)) (x y : Int) : Nat → Bool
  | 0 => false
  | k + 1 => fto f x y k || (gx f k == x && gy f k == y)
theorem fto_succ (f : List (Int × Int)) (x y : Int) (k : Nat) : fto f x y (k + 1) = (fto f x y k || (gx f k == x && gy f k == y)) := rfl
theorem fto_iff {f : List (Int × Int)} {x y : Int} : ∀ k, fto f x y k = true ↔ ∃ i, i < k ∧ gx f i = x ∧ gy f i = y
  | 0 => by
    constructor
    · intro h; cases h
    · rintro ⟨i, hi, _⟩; omega
  | k + 1 => by
    rw [fto_succ, Bool.or_eq_true, fto_iff k, Bool.and_eq_true, beq_iff_eq, beq_iff_eq]
    constructor
    · rintro (⟨i, hi, h⟩ | h)
      · exact ⟨i, by omega, h⟩
      · exact ⟨k, by omega, h⟩
    · rintro ⟨i, hi, h⟩
      by_cases e : i = k
      · subst e; exact .inr h
      · exact .inl ⟨i, by omega, h⟩
theorem fto_mem (f : List (Int × Int)) (x y : Int) : fto f x y f.length = decide ((x, y) ∈ f) := by
  rw [Bool.eq_iff_iff, fto_iff, decide_eq_true_eq]
  constructor
  · rintro ⟨i, hi, h1, h2⟩
    have := g_mem hi
    rw [h1, h2] at this
    exact this
  · intro h
    obtain ⟨k, hk, h1, h2⟩ := mem_g h
    exact ⟨k, hk, h1, h2⟩

end Go.Proofs.Ytjccilpjaaiicaa

namespace Go.Proofs.Ytjccilpjaaiicaa
open Go.RowKit

section
variable {P : Program} {ops : Array Oper} {Q : Exit → Act → World → Prop}
/-- operation a makes the new block ob -/
def AStep (P : Program) (ops : Array Oper) (Q : Exit → Act → World → Prop) (fr : (Nat → Value) → Act) (a : Nat) (ob : Obj) : Prop :=
  ∀ o, ops[a]? = some o → o.guard = none ∧ ∀ (u : Nat → Value) (w : World) (K : Act → World → Prop), K (fr (upd u a (.pointer (some ⟨w.heap.size, 0, none⟩)))) (w.alloc ob) → o.wp P (fr u) w K Q

theorem wp_flow_tail_d {id : Nat} (m a b : Nat) (ob : Obj) (hm : P.follows .mixedOrders = true) (hb : backB ops = true) (hf : forcedB ops m = true) (hmn0 : decide (m < ops.size) = true) (fr : (Nat → Value) → Act) (u0 : Nat → Value) (l : List (Value → World → Prop)) (C : World → Prop) (W : World) (hl : m = l.length)
    (hC : ∀ w, Ext W w → C w) (hs : FSteps P ops Q fr (vOf l) C W 0 (ops.toList.take m)) (hV : ∀ p ∈ l, Stable p)
    (hab : a ≠ b) (hA : AStep P ops Q fr a ob) (hB : AStep P ops Q fr b ob) (hVA : ∀ w, Ext W w → vOf l a (.pointer (some ⟨w.heap.size, 0, none⟩)) (w.alloc ob)) (hVB : ∀ w, Ext W w → vOf l b (.pointer (some ⟨w.heap.size, 0, none⟩)) (w.alloc ob))
    (hLA : ∀ v w, vOf l a v w → v ≠ .pointer (some ⟨w.heap.size, 0, none⟩)) (hLB : ∀ v w, vOf l b v w → v ≠ .pointer (some ⟨w.heap.size, 0, none⟩)) (ham : a < m) (hbm : b < m)
    (fin : ∀ u w, Ext W w → C w → AllV l 0 u w → u a ≠ u b → wpList P ops Q (ops.toList.drop m) (fr u) w) : (Code.region id ops true).wp P Q (fr u0) W := by
  have hmn : m < ops.size := of_decide_eq_true hmn0
  refine wp_region_any hm ?_
  have key : ∀ (fuel : Nat) (listed : Array Bool) (u : Nat → Value) (w : World), listed.size = ops.size → fuel + listed.toList.count true = ops.size → (∀ i, listed.getD i false = true → i < m ∧ vOf l i (u i) w) → DClosed ops listed → (listed.getD a false = true → listed.getD b false = true → u a ≠ u b) → Ext W w →
      wpAny P .any ops Q fuel listed (fr u) w := by
    intro fuel
    induction fuel with
    | zero =>
      intro listed u w hz hc hv _ _ _
      exfalso
      have := all_of_count listed.toList (by simp at hc ⊢; omega) m (by simp; omega)
      simp at this
      have h2 := (hv m (by simp [Array.getD, hz, hmn, (Array.getElem?_eq_some_iff.1 this).2])).1
      omega
    | succ fuel ih =>
      intro listed u w hz hc hv hcl hdi hx
      by_cases hall : ∀ j, j < m → listed.getD j false = true
      · have hrest : ∀ j, m ≤ j → listed.getD j false = false := by
          intro j hj
          cases h : listed.getD j false with
          | false => rfl
          | true => have := (hv j h).1; omega
        have hcount : listed.toList.count true = m := by
          refine count_first _ m (by simp; omega) (fun j hj => ?_) (fun j hj hj2 => ?_)
          · have hjl : j < listed.size := by omega
            have := hall j hj
            simp [Array.getD, hjl] at this
            simp [hjl, this]
          · have hjl : j < listed.size := by simpa using hj2
            have := hrest j hj
            simp [Array.getD, hjl] at this
            simp [hjl, this]
        exact wp_tail hb hf (fuel + 1) m (by omega) (Nat.le_refl _) listed _ w hz hall hrest (fin u w hx (hC w hx) (allV_of l 0 u w fun i hi => by rw [Nat.zero_add]; exact (hv i (hall i (by omega))).2) (hdi (hall a ham) (hall b hbm)))
      · refine ⟨fun hr => absurd (fun j hj => all_listed hz hb hr j (by omega)) hall, fun i hi => ?_⟩
        obtain ⟨h1, h2, h3⟩ := ready_of hi
        have him : i < m := by
          rcases Nat.lt_or_ge i m with hh | hh
          · exact hh
          · exact absurd (fun j hj => forced hf hcl hi hh j (by omega)) hall
        have hil : i < listed.size := by omega
        have h2' : listed[i]'hil = false := by simpa [Array.getD, hil] using h2
        have ho : ops[i]? = some (ops[i]'h1) := Array.getElem?_eq_getElem h1
        have hgt : ∀ j, j ≠ i → (listed.setIfInBounds i true).getD j false = listed.getD j false := by
          intro j hj
          simp only [Array.getD_eq_getD_getElem?, Array.getElem?_setIfInBounds]
          rw [if_neg (fun e => hj e.symm)]
        have hnext : ∀ v w', vOf l i v w' → Ext w w' → (i = a → listed.getD b false = true → v ≠ u b) → (i = b → listed.getD a false = true → u a ≠ v) → wpAny P .any ops Q fuel (listed.setIfInBounds i true) (fr (upd u i v)) w' := fun v w' hvi hx' hq1 hq2 => by
          refine ih _ _ _ (by simp [hz]) ?_ ?_ ?_ ?_ (hx.trans hx')
          · rw [Array.toList_setIfInBounds, count_set_true _ _ (by simp [Array.getElem?_eq_getElem hil, h2'])]
            omega
          · intro j hj
            by_cases e : j = i
            · subst e; simp only [upd, if_true]; exact ⟨him, hvi⟩
            · have : listed.getD j false = true := by
                simp only [Array.getD_eq_getD_getElem?, Array.getElem?_setIfInBounds] at hj ⊢
                rwa [if_neg (by omega)] at hj
              simp only [upd, if_neg e]
              exact ⟨(hv j this).1, vOf_stable hV _ _ _ _ (hv j this).2 hx'⟩
          · intro j o hj hoj e he hbd
            have hset : ∀ k, listed.getD k false = true → (listed.setIfInBounds i true).getD k false = true := by
              intro k hk
              simp only [Array.getD_eq_getD_getElem?, Array.getElem?_setIfInBounds] at hk ⊢
              by_cases e : i = k
              · rw [if_pos e, if_pos (by omega)]; rfl
              · rwa [if_neg e]
            refine hset _ ?_
            by_cases e' : j = i
            · subst e'
              exact h3 o hoj e he hbd
            · refine hcl j o ?_ hoj e he hbd
              simp only [Array.getD_eq_getD_getElem?, Array.getElem?_setIfInBounds] at hj ⊢
              rwa [if_neg (by omega)] at hj
          · intro g1 g2
            by_cases e1 : i = a
            · have e2 : b ≠ i := fun e => hab (e1.symm.trans e.symm)
              rw [hgt b e2] at g2
              simp only [upd, if_neg e2, if_pos e1.symm]
              exact hq1 e1 g2
            · by_cases e2 : i = b
              · rw [hgt a (fun e => e1 e.symm)] at g1
                simp only [upd, if_pos e2.symm, if_neg (fun e => e1 (Eq.symm e) : ¬ a = i)]
                exact hq2 e2 g1
              · rw [hgt a (fun e => e1 e.symm)] at g1
                rw [hgt b (fun e => e2 e.symm)] at g2
                simp only [upd, if_neg (fun e => e1 (Eq.symm e) : ¬ a = i), if_neg (fun e => e2 (Eq.symm e) : ¬ b = i)]
                exact hdi g1 g2
        have hgo : if Region.wanted (ops[i]'h1) (yielded ops (fr u).tmps) then (ops[i]'h1).wp P (fr u) w (wpAny P .any ops Q fuel (listed.setIfInBounds i true)) Q else wpAny P .any ops Q fuel (listed.setIfInBounds i true) ((fr u).put (ops[i]'h1).dst undef) w := by
          by_cases e1 : i = a
          · obtain ⟨hg, hrun⟩ := hA (ops[i]'h1) (by rw [← e1]; exact ho)
            rw [if_pos (by simp [Region.wanted, hg])]
            refine hrun u w _ ?_
            have := hnext (.pointer (some ⟨w.heap.size, 0, none⟩)) (w.alloc ob) (by rw [e1]; exact hVA w hx) ((Ext.refl w).alloc ob) (fun _ hb2 he => hLB _ _ (hv b hb2).2 he.symm) (fun e2 => absurd (e1.symm.trans e2) hab)
            rwa [e1] at this ⊢
          · by_cases e2 : i = b
            · obtain ⟨hg, hrun⟩ := hB (ops[i]'h1) (by rw [← e2]; exact ho)
              rw [if_pos (by simp [Region.wanted, hg])]
              refine hrun u w _ ?_
              have := hnext (.pointer (some ⟨w.heap.size, 0, none⟩)) (w.alloc ob) (by rw [e2]; exact hVB w hx) ((Ext.refl w).alloc ob) (fun e3 => absurd e3 e1) (fun _ ha2 => hLA _ _ (hv a ha2).2)
              rwa [e2] at this ⊢
            · have hst := FSteps.get (ops.toList.take m) 0 hs i (ops[i]'h1) (by rw [List.getElem?_take_of_lt him, Array.getElem?_toList]; exact ho)
              rw [Nat.zero_add] at hst
              exact hst u w hx (hC w hx) (fun e he hbd => (hv _ (h3 _ ho e he hbd)).2) (wpAny P .any ops Q fuel (listed.setIfInBounds i true)) (fun v w' hvi hx' => hnext v w' hvi hx' (fun e3 => absurd e3 e1) (fun e3 => absurd e3 e2))
        unfold wpOp
        rw [ho]
        simp only
        split
        · rename_i hw
          rw [if_pos hw] at hgo
          exact .inl hgo
        · rename_i hw
          rw [if_neg hw] at hgo
          exact hgo
  have hno : ∀ i, ¬ (Array.replicate ops.size false).getD i false = true := by
    intro i h
    simp only [Array.getD_eq_getD_getElem?, Array.getElem?_replicate] at h
    split at h <;> simp at h
  exact key ops.size (Array.replicate ops.size false) u0 _ (by simp) (by simp [List.count_replicate]) (fun i h => absurd h (hno i)) (fun i o h => absurd h (hno i)) (fun h => absurd h (hno a)) (Ext.drew (Ext.refl W))
end

end Go.Proofs.Ytjccilpjaaiicaa

namespace Go.Proofs.Ytjccilpjaaiicaa
open Go.RowKit

section
variable {P : Program} {ops : Array Oper} {Q : Exit → Act → World → Prop}
theorem wp_flow_m {id : Nat} (hm : P.follows .mixedOrders = true) (hb : backB ops = true) (fr : (Nat → Value) → Act) (u0 : Nat → Value) (C : World → Prop) (W : World) (G : (Nat → Value) → Prop)
    (hC : ∀ w, Ext W w → C w) (h : ∃ l : List (Value → World → Prop), ops.size = l.length ∧ FSteps P ops Q fr (vOf l) C W 0 ops.toList ∧ (∀ p ∈ l, Stable p) ∧ ∀ u w, AllV l 0 u w → G u)
    (fin : ∀ u w, Ext W w → C w → G u → Q .normal (fr u) w) : (Code.region id ops true).wp P Q (fr u0) W := by
  obtain ⟨l, hl, hs, hV, hG⟩ := h
  exact wp_flow hm hb fr u0 l C W hl hC hs hV (fun u w a b c => fin u w a b (hG u w c))

theorem wp_flow_tail_m {id : Nat} (m : Nat) (hm : P.follows .mixedOrders = true) (hb : backB ops = true) (hf : forcedB ops m = true) (hmn0 : decide (m < ops.size) = true) (fr : (Nat → Value) → Act) (u0 : Nat → Value) (C : World → Prop) (W : World) (G : (Nat → Value) → Prop)
    (hC : ∀ w, Ext W w → C w) (h : ∃ l : List (Value → World → Prop), m = l.length ∧ FSteps P ops Q fr (vOf l) C W 0 (ops.toList.take m) ∧ (∀ p ∈ l, Stable p) ∧ ∀ u w, AllV l 0 u w → G u)
    (fin : ∀ u w, Ext W w → C w → G u → wpList P ops Q (ops.toList.drop m) (fr u) w) : (Code.region id ops true).wp P Q (fr u0) W := by
  obtain ⟨l, hl, hs, hV, hG⟩ := h
  exact wp_flow_tail m hm hb hf hmn0 fr u0 l C W hl hC hs hV (fun u w a b c => fin u w a b (hG u w c))
end

end Go.Proofs.Ytjccilpjaaiicaa

namespace Go.Proofs.Ytjccilpjaaiicaa
open Go.RowKit

/-- whether a line crosses wall k, as the reference asks it -/
def crsS (l : List (Int × Int)) (ax ay bx by_ : Int) (k : Nat) : Bool := doCrossV ax ay bx by_ (gx l k) (gy l k) (gx l (nx l k)) (gy l (nx l k))
theorem blockV_in {l : List (Int × Int)} {ax ay bx by_ : Int} (ha : isInV l ax ay = true) (hb : isInV l bx by_ = true) : blockV l ax ay bx by_ = firstP (crsS l ax ay bx by_) 0 l.length := by
  obtain ⟨pa, hr, _⟩ := isIn_iff.1 ha
  obtain ⟨pb, _, _⟩ := isIn_iff.1 hb
  unfold blockV
  cases hs : (ax == bx && ay == by_)
  · rw [if_neg (fun h => by rcases h with h | h | h; cases h; (rw [ha] at h; cases h); (rw [hb] at h; cases h))]
    have key : ∀ d k, k + d ≤ l.length → firstP (crsE l ax ay bx by_) k d = firstP (crsS l ax ay bx by_) k d := by
      intro d
      induction d with
      | zero => intro k _; rfl
      | succ d ih =>
        intro k hk
        unfold firstP
        have e : crsS l ax ay bx by_ k = crsE l ax ay bx by_ k := cross_room hr pa pb hs (by omega)
        rw [e, ih (k + 1) (by omega)]
    exact key l.length 0 (by omega)
  · rw [if_pos (.inl rfl)]
    exact (firstP_no _ l.length 0 (fun j _ _ => cross_same hs j)).symm

end Go.Proofs.Ytjccilpjaaiicaa

namespace Go.Proofs.Ytjccilpjaaiicaa
open Go.RowKit

/-- w' is w with new blocks; of the old ones only those that R names may have turned. -/
structure Mut (R : Nat → Prop) (w w' : World) : Prop where
  os : w'.os = w.os
  tape : w'.tape = w.tape
  output : w'.output = w.output
  size : w.heap.size ≤ w'.heap.size
  block : ∀ k, k < w.heap.size → ¬ R k → w'.heap[k]? = w.heap[k]?

section
variable {R : Nat → Prop} {w a b : World}
theorem Mut.of_ext (h : Ext w a) : Mut R w a := ⟨h.below.os, h.below.tape, h.below.output, h.size, fun k hk _ => h.below.block k hk⟩
theorem Mut.refl (w : World) : Mut R w w := Mut.of_ext (Ext.refl w)
theorem Mut.ext (h : Mut R w a) (hx : Ext a b) : Mut R w b :=
  ⟨hx.below.os.trans h.os, hx.below.tape.trans h.tape, hx.below.output.trans h.output, Nat.le_trans h.size hx.size, fun k hk hr => (hx.below.block k (Nat.lt_of_lt_of_le hk h.size)).trans (h.block k hk hr)⟩
theorem Mut.chg {lo hi : Nat} (h : Mut R w a) (hc : Chg lo hi a b) (hR : ∀ k, lo ≤ k → k < hi → R k) : Mut R w b :=
  ⟨hc.os.trans h.os, hc.tape.trans h.tape, hc.output.trans h.output, by rw [hc.size]; exact h.size, fun k hk hr => (hc.block k (fun hb => hr (hR k hb.1 hb.2))).trans (h.block k hk hr)⟩
theorem Mut.cell (h : Mut R w a) {g : Nat} (hg : g < w.heap.size) (hr : ¬ R g) (o : Nat) : a.cell? ⟨g, o, none⟩ = w.cell? ⟨g, o, none⟩ := World.cell?_of_block (w := w) (a := ⟨g, o, none⟩) (h.block g hg hr)
theorem Mut.pts {lo hi : Nat} {A : Option Addr} {l : List (Int × Int)} (h : Mut R w a) (hp : Pts w lo hi A l) (hh : hi ≤ w.heap.size) (hr : ∀ k, lo ≤ k → k < hi → ¬ R k) : Pts a lo hi A l := fun hl =>
  let ⟨g, off, e, a1, a2, h3⟩ := hp hl
  ⟨g, off, e, a1, a2, fun k hk => ⟨(h.cell (by omega) (hr g a1 a2) _).trans (h3 k hk).1, (h.cell (by omega) (hr g a1 a2) _).trans (h3 k hk).2⟩⟩
theorem Mut.rpts {B : Nat} {A : Option Addr} {l : List (Int × Int)} (h : Mut R w a) (hp : Pts w 0 B A l) (hh : B ≤ w.heap.size) (hr : ∀ k, R k → B ≤ k) : RPts a A l :=
  (h.pts hp hh (fun k _ hk hc => by have := hr k hc; omega)).more (Nat.le_refl _) (Nat.le_trans hh h.size)
theorem Mut.ownI {lo hi : Nat} {T : TypeId} {A : Option Addr} {l : List Int} (h : Mut R w a) (ho : OwnI w lo hi T A l) (hr : ∀ k, lo ≤ k → k < hi → ¬ R k) : OwnI a lo hi T A l := fun hl => by
  obtain ⟨g, cs, e, a1, a2, h3, h4⟩ := ho hl
  have hlt : g < w.heap.size := by
    rcases Nat.lt_or_ge g w.heap.size with h5 | h5
    · exact h5
    · rw [Array.getElem?_eq_none h5] at h3; cases h3
  exact ⟨g, cs, e, a1, a2, (h.block g hlt (hr g a1 a2)).trans h3, h4⟩
theorem Mut.ownS {lo hi : Nat} {T : TypeId} {A : Option Addr} {l : List (Int × Int)} (h : Mut R w a) (ho : OwnS w lo hi T A l) (hr : ∀ k, lo ≤ k → k < hi → ¬ R k) : OwnS a lo hi T A l := fun hl =>
  let ⟨g, e, a1, a2, h3⟩ := ho hl
  ⟨g, e, a1, a2, h3.same (h.block g h3.lt (hr g a1 a2))⟩
theorem Mut.below {v : World} (hv : Ext v w) (h : Mut R w a) (hr : ∀ k, R k → v.heap.size ≤ k) : Below v.heap.size v a :=
  ⟨h.os.trans hv.below.os, h.tape.trans hv.below.tape, h.output.trans hv.below.output, Nat.le_trans hv.size h.size, fun k hk => (h.block k (Nat.lt_of_lt_of_le hk hv.size) (fun hc => by have := hr k hc; omega)).trans (hv.below.block k hk)⟩
end

/-- two ranges of blocks -/
def InR (lo hi lo' hi' k : Nat) : Prop := (lo ≤ k ∧ k < hi) ∨ (lo' ≤ k ∧ k < hi')
theorem notR {lo hi lo' hi' k : Nat} (h1 : k < lo ∨ hi ≤ k) (h2 : k < lo' ∨ hi' ≤ k) : ¬ InR lo hi lo' hi' k := fun h => by
  rcases h with ⟨a, b⟩ | ⟨a, b⟩ <;> omega

end Go.Proofs.Ytjccilpjaaiicaa

namespace Go.Proofs.Ytjccilpjaaiicaa
open Go.RowKit

theorem info_ints : (Try.prog.info? 33).map (fun i => (i.zero, i.size, i.bytes)) = some (some (.slice none 0 0), 1, 24) := by kernel_rfl

/-- the slice over a block of two -/
def sl2 (b : Nat) : Value := .slice (some ⟨b, 0, none⟩) 2 2
/-- the cells of the outer row -/
def rowV (bs : List Nat) : List Value := bs.map sl2
theorem rowV_length (bs : List Nat) : (rowV bs).length = bs.length := by simp [rowV]
theorem rowV_get (bs : List Nat) (k : Nat) (h : k < bs.length) : (rowV bs)[k]? = some (sl2 (bs.getD k 0)) := by
  simp [rowV, List.getD_eq_getElem?_getD, h]
theorem rowV_append (a b : List Nat) : rowV (a ++ b) = rowV a ++ rowV b := by simp [rowV]
/-- point k of a list of points, as a row of two -/
def two (l : List (Int × Int)) (k : Nat) : List Int := [gx l k, gy l k]
theorem two_length (l : List (Int × Int)) (k : Nat) : (two l k).length = 2 := rfl

/-- the blocks bs, distinct, in [lo, hi), hold the pairs of L, each two numbers -/
def Ins (w : World) (lo hi : Nat) (bs : List Nat) (L : List (Int × Int)) : Prop :=
  bs.length = L.length ∧ bs.Nodup ∧ (∀ b, b ∈ bs → lo ≤ b ∧ b < hi) ∧ ∀ k, k < L.length → OwnI w (bs.getD k 0) (bs.getD k 0 + 1) 3 (some ⟨bs.getD k 0, 0, none⟩) (two L k)

theorem ownI_same {w w' : World} {b : Nat} {T : TypeId} {l : List Int} (h : OwnI w b (b + 1) T (some ⟨b, 0, none⟩) l) (hb : w'.heap[b]? = w.heap[b]?) : OwnI w' b (b + 1) T (some ⟨b, 0, none⟩) l := fun hl => by
  obtain ⟨g, cs, e, h1, h2, h3, h4⟩ := h hl
  have e2 : g = b := by omega
  subst e2
  exact ⟨g, cs, e, h1, h2, hb.trans h3, h4⟩
theorem ownI_lt {w : World} {b : Nat} {T : TypeId} {l : List Int} (h : OwnI w b (b + 1) T (some ⟨b, 0, none⟩) l) (hl : 0 < l.length) : b < w.heap.size := by
  obtain ⟨g, cs, e, h1, h2, h3, h4⟩ := h hl
  have e2 : g = b := by omega
  subst e2
  exact heap_lt h3

section
variable {w w' : World} {lo hi lo' hi' : Nat} {bs : List Nat} {L : List (Int × Int)}
theorem getB_mem {bs : List Nat} {k : Nat} (h : k < bs.length) : bs.getD k 0 ∈ bs := by
  rw [List.getD_eq_getElem?_getD, List.getElem?_eq_getElem h]
  exact List.getElem_mem h
theorem Ins.lt (h : Ins w lo hi bs L) : ∀ b, b ∈ bs → b < w.heap.size := fun b hb => by
  obtain ⟨k, hk, rfl⟩ := List.getElem_of_mem hb
  have := ownI_lt (h.2.2.2 k (by rw [← h.1]; exact hk)) (by simp [two])
  rw [List.getD_eq_getElem?_getD, List.getElem?_eq_getElem hk] at this
  exact this
theorem Ins.kept (h : Ins w lo hi bs L) (hb : ∀ b, b ∈ bs → w'.heap[b]? = w.heap[b]?) : Ins w' lo hi bs L :=
  ⟨h.1, h.2.1, h.2.2.1, fun k hk => ownI_same (h.2.2.2 k hk) (hb _ (getB_mem (by rw [h.1]; exact hk)))⟩
theorem Ins.ext (h : Ins w lo hi bs L) (hx : Ext w w') : Ins w' lo hi bs L := h.kept (fun b hb => hx.below.block b (h.lt b hb))
theorem Ins.more (h : Ins w lo hi bs L) (h1 : lo' ≤ lo) (h2 : hi ≤ hi') : Ins w lo' hi' bs L := ⟨h.1, h.2.1, fun b hb => by have := h.2.2.1 b hb; omega, h.2.2.2⟩
theorem Ins.nil : Ins w lo hi [] [] := ⟨rfl, List.nodup_nil, fun b hb => (by cases hb), fun k hk => absurd hk (by simp)⟩
theorem gx_append_left {a b : List (Int × Int)} {k : Nat} (h : k < a.length) : gx (a ++ b) k = gx a k := by
  unfold gx
  rw [List.getD_eq_getElem?_getD, List.getElem?_append_left h, List.getD_eq_getElem?_getD]
theorem gy_append_left {a b : List (Int × Int)} {k : Nat} (h : k < a.length) : gy (a ++ b) k = gy a k := by
  unfold gy
  rw [List.getD_eq_getElem?_getD, List.getElem?_append_left h, List.getD_eq_getElem?_getD]
theorem gx_append_last (a : List (Int × Int)) (x y : Int) : gx (a ++ [(x, y)]) a.length = x := by simp [gx, List.getD_eq_getElem?_getD]
theorem gy_append_last (a : List (Int × Int)) (x y : Int) : gy (a ++ [(x, y)]) a.length = y := by simp [gy, List.getD_eq_getElem?_getD]
/-- one more pair, in a block of its own -/
theorem Ins.snoc (h : Ins w lo hi bs L) {b : Nat} {x y : Int} (h1 : lo ≤ b) (h2 : b < hi) (hn : b ∉ bs) (ho : OwnI w b (b + 1) 3 (some ⟨b, 0, none⟩) [x, y]) : Ins w lo hi (bs ++ [b]) (L ++ [(x, y)]) := by
  refine ⟨by simp [h.1], ?_, fun c hc => ?_, fun k hk => ?_⟩
  · rw [List.nodup_append]
    refine ⟨h.2.1, by simp, fun c hc d hd => ?_⟩
    rw [List.mem_singleton] at hd
    subst hd
    intro e
    subst e
    exact hn hc
  · rw [List.mem_append, List.mem_singleton] at hc
    rcases hc with hc | rfl
    · exact h.2.2.1 c hc
    · exact ⟨h1, h2⟩
  · rw [List.length_append, List.length_singleton] at hk
    by_cases e : k < L.length
    · have e1 : (bs ++ [b]).getD k 0 = bs.getD k 0 := by
        rw [List.getD_eq_getElem?_getD, List.getElem?_append_left (by rw [h.1]; exact e), List.getD_eq_getElem?_getD]
      have e2 : two (L ++ [(x, y)]) k = two L k := by unfold two; rw [gx_append_left e, gy_append_left e]
      rw [e1, e2]
      exact h.2.2.2 k e
    · have e0 : k = L.length := by omega
      have e1 : (bs ++ [b]).getD k 0 = b := by
        rw [e0, ← h.1]
        simp [List.getD_eq_getElem?_getD]
      have e2 : two (L ++ [(x, y)]) k = [x, y] := by unfold two; rw [e0, gx_append_last, gy_append_last]
      rw [e1, e2]
      exact ho
end

/-- The slice '.slice A L.length c' owns rows of two that read as L: all blocks lie in [lo, hi). -/
def OwnR (w : World) (lo hi : Nat) (T : TypeId) (A : Option Addr) (L : List (Int × Int)) : Prop :=
  0 < L.length → ∃ g cs bs, A = some ⟨g, 0, none⟩ ∧ lo ≤ g ∧ g < hi ∧ g ∉ bs ∧ w.heap[g]? = some (.cells cs T (0, 0)) ∧ (∀ k, k < L.length → cs[k]? = some (sl2 (bs.getD k 0))) ∧ Ins w lo hi bs L

/-- The slice '.slice A L.length c' reads as the rows of two L. -/
def RRows (w : World) (A : Option Addr) (L : List (Int × Int)) : Prop :=
  0 < L.length → ∃ g, A = some ⟨g, 0, none⟩ ∧ g < w.heap.size ∧ ∀ k, k < L.length → ∃ b, w.cell? ⟨g, k, none⟩ = some (sl2 b) ∧ RInts w (some ⟨b, 0, none⟩) (two L k)

section
variable {w w' : World} {lo hi lo' hi' : Nat} {T : TypeId} {A : Option Addr} {L : List (Int × Int)}
theorem OwnR.ext (h : OwnR w lo hi T A L) (hx : Ext w w') : OwnR w' lo hi T A L := fun hl =>
  let ⟨g, cs, bs, e, h1, h2, h3, h4, h5, h6⟩ := h hl
  ⟨g, cs, bs, e, h1, h2, h3, (hx.below.block g (heap_lt h4)).trans h4, h5, h6.ext hx⟩
theorem OwnR.more (h : OwnR w lo hi T A L) (h1 : lo' ≤ lo) (h2 : hi ≤ hi') : OwnR w lo' hi' T A L := fun hl =>
  let ⟨g, cs, bs, e, a1, a2, h3, h4, h5, h6⟩ := h hl
  ⟨g, cs, bs, e, by omega, by omega, h3, h4, h5, h6.more h1 h2⟩
theorem OwnR.nil : OwnR w lo hi T A [] := fun h => absurd h (by simp)
theorem OwnR.r (h : OwnR w lo hi T A L) : RRows w A L := fun hl => by
  obtain ⟨g, cs, bs, e, a1, a2, h3, h4, h5, h6⟩ := h hl
  exact ⟨g, e, heap_lt h4, fun k hk => ⟨bs.getD k 0, by simp [World.cell?, h4, h5 k hk], (h6.2.2.2 k hk).r⟩⟩
theorem OwnR.chg (h : OwnR w lo' hi' T A L) (hc : Chg lo hi w w') (hd : hi' ≤ lo ∨ hi ≤ lo') : OwnR w' lo' hi' T A L := fun hl =>
  let ⟨g, cs, bs, e, a1, a2, h3, h4, h5, h6⟩ := h hl
  ⟨g, cs, bs, e, a1, a2, h3, (hc.block g (by omega)).trans h4, h5, h6.kept (fun b hb => hc.block b (by have := h6.2.2.1 b hb; omega))⟩
theorem RRows.ext (h : RRows w A L) (hx : Ext w w') : RRows w' A L := fun hl =>
  let ⟨g, e, h1, h2⟩ := h hl
  ⟨g, e, Nat.lt_of_lt_of_le h1 hx.size, fun k hk => let ⟨b, h3, h4⟩ := h2 k hk; ⟨b, (hx.cells _ _ h1).trans h3, h4.ext hx⟩⟩
theorem RRows.nil : RRows w A [] := fun h => absurd h (by simp)
theorem RRows.at_ (h : RRows w A L) {k : Nat} (hk : k < L.length) : ∃ g b, A = some ⟨g, 0, none⟩ ∧ g < w.heap.size ∧ w.cell? ⟨g, k, none⟩ = some (.slice (some ⟨b, 0, none⟩) 2 2) ∧ RInts w (some ⟨b, 0, none⟩) (two L k) :=
  let ⟨g, e, h1, h2⟩ := h (by omega)
  let ⟨b, h3, h4⟩ := h2 k hk
  ⟨g, b, e, h1, h3, h4⟩
theorem Mut.ownR {R : Nat → Prop} (h : Mut R w w') (ho : OwnR w lo hi T A L) (hr : ∀ k, lo ≤ k → k < hi → ¬ R k) : OwnR w' lo hi T A L := fun hl =>
  let ⟨g, cs, bs, e, a1, a2, h3, h4, h5, h6⟩ := ho hl
  ⟨g, cs, bs, e, a1, a2, h3, (h.block g (heap_lt h4) (hr g a1 a2)).trans h4, h5, h6.kept (fun b hb => h.block b (h6.lt b hb) (by have := h6.2.2.1 b hb; exact hr b this.1 this.2))⟩
end

/-- an outer row of the call's own, and the inner blocks -/
theorem OwnR.of_own {w : World} {base T : Nat} {A : Option Addr} {n c : Nat} {L : List (Int × Int)} {bs : List Nat} (h : w.ownsRow base T 1 (.slice A n c) n (rowV bs)) (hi : Ins w base w.heap.size bs L) (hg : ∀ g, (Value.slice A n c).ownBlock = some g → g ∉ bs) : n = L.length ∧ OwnR w base w.heap.size T A L := by
  have h1 : n = L.length := by have := h.1; rw [rowV_length, hi.1] at this; omega
  refine ⟨h1, fun hl => ?_⟩
  rcases h.2 with ⟨_, h2⟩ | ⟨g, cap, cur, hv, hb, hh, hcap, _, hsz, htake⟩
  · omega
  · have hg' := hg g (by rw [hv]; rfl)
    injection hv with hA _ hc
    subst hA hc
    refine ⟨g, cur, bs, rfl, hb, heap_lt hh, hg', hh, fun k hk => ?_, hi⟩
    have := rowV_get bs k (by rw [hi.1]; exact hk)
    rw [← htake, List.getElem?_take, if_pos (by omega)] at this
    simpa using this

/-- a call that returns a new slice of rows of two -/
def RetR2 (T : TypeId) (x : List (Int × Int)) (w : World) (e : Ending) (w' : World) : Prop := ∃ A' c', e = .returned (.slice A' x.length c') ∧ OwnR w' w.heap.size w'.heap.size T A' x ∧ Ext w w'

theorem two_markL (k0 : Int) (n k : Nat) (h : k < n) : two (markL k0 n) k = markI (k0 + 2 * (k : Int)) 2 := by
  unfold two
  rw [gx_markL k0 n k h, gy_markL k0 n k h]
  simp [markI, List.range_succ]

theorem two_append_left {a b : List (Int × Int)} {k : Nat} (h : k < a.length) : two (a ++ b) k = two a k := by unfold two; rw [gx_append_left h, gy_append_left h]
theorem two_mark_drop (k0 : Int) (L : List (Int × Int)) (k j : Nat) (hk : k ≤ j) (hj : j < L.length) : two (markL k0 k ++ L.drop k) j = two L j := by
  have e : (markL k0 k).length = k := markL_length k0 k
  unfold two gx gy
  rw [List.getD_eq_getElem?_getD, List.getElem?_append_right (by omega), e, List.getElem?_drop, List.getD_eq_getElem?_getD, show k + (j - k) = j by omega]
theorem Ins.mark {w w' : World} {lo hi : Nat} {bs : List Nat} {L : List (Int × Int)} {k0 : Int} {k : Nat} (hk : k < L.length) (h : Ins w lo hi bs (markL k0 k ++ L.drop k)) (hc : Chg (bs.getD k 0) (bs.getD k 0 + 1) w w') (ho : OwnI w' (bs.getD k 0) (bs.getD k 0 + 1) 3 (some ⟨bs.getD k 0, 0, none⟩) (markI (k0 + 2 * (k : Int)) 2)) : Ins w' lo hi bs (markL k0 (k + 1) ++ L.drop (k + 1)) := by
  have hl : bs.length = L.length := by have := h.1; simp [markL_length] at this; omega
  refine ⟨by simp [markL_length]; omega, h.2.1, h.2.2.1, fun j hj => ?_⟩
  have hj' : j < L.length := by simp [markL_length] at hj; omega
  by_cases e : j = k
  · subst e
    rw [two_append_left (by rw [markL_length]; omega), two_markL _ _ _ (by omega)]
    exact ho
  · have hne : bs.getD j 0 ≠ bs.getD k 0 := fun e2 => by
      rw [List.getD_eq_getElem?_getD, List.getD_eq_getElem?_getD, List.getElem?_eq_getElem (by omega), List.getElem?_eq_getElem (by omega)] at e2
      exact e ((List.getElem_inj h.2.1).1 (by simpa using e2))
    have h0 := h.2.2.2 j (by simp [markL_length]; omega)
    have e3 : two (markL k0 (k + 1) ++ L.drop (k + 1)) j = two (markL k0 k ++ L.drop k) j := by
      rcases Nat.lt_or_ge j k with hlt | hge
      · rw [two_append_left (by rw [markL_length]; omega), two_append_left (by rw [markL_length]; omega), two_markL _ _ _ (by omega), two_markL _ _ _ (by omega)]
      · rw [two_mark_drop _ _ _ _ (by omega) hj', two_mark_drop _ _ _ _ (by omega) hj']
    rw [e3]
    exact ownI_same h0 (hc.block _ (by omega))

theorem Chg.trans2 {lo hi lo' hi' : Nat} {a b c : World} (h : Chg lo hi a b) (k : Chg lo' hi' b c) (h1 : lo ≤ lo') (h2 : hi' ≤ hi) : Chg lo hi a c :=
  ⟨k.os.trans h.os, k.tape.trans h.tape, k.output.trans h.output, k.size.trans h.size, fun j hj => (k.block j (by omega)).trans (h.block j hj)⟩

end Go.Proofs.Ytjccilpjaaiicaa

namespace Go.Proofs.Ytjccilpjaaiicaa
open Go.RowKit

/-- DoubleArea, as both texts give it -/
def dblV (l : List (Int × Int)) : Int := if l.length ≤ 10 then (if allok l = true then areaZ l else 0) else 0

set_option maxHeartbeats 800000 in
theorem DoubleArea_any (A : Option Addr) (l : List (Int × Int)) (c : Nat) (w : World) (hp : RPts w A l) (hn : l.length ≤ 1048576) :
    Calls Try.prog 16 #[.slice A l.length c] w fun e w' => e = .returned (.int .i64 (dblV l)) ∧ Ext w w' := by
  unfold dblV
  by_cases h : l.length ≤ 10
  · rw [if_pos h]
    cases ha : allok l
    · go_enter Try.func16, Try.ntmps16
      go_wp2_with (go_at_call 31; refine (pointsOk_any _ _ _ _ hp hn).mono ?_; rintro e w1 ⟨rfl, hb⟩)
      go_ret
      exact ⟨rfl, by (repeat (first | exact Ext.refl _ | assumption | apply Ext.alloc | apply Ext.drew | apply Ext.drewN | (refine Ext.trans ?_ (by assumption))))⟩
    · have hf : Fine l := ⟨ha, h⟩
      go_enter Try.func16, Try.ntmps16
      go_wp2_with (first | (go_at_call 31; refine (pointsOk_any _ _ _ _ hp hn).mono ?_; rintro e w1 ⟨rfl, hb⟩) | (go_at_call 32; refine (area_any _ _ _ _ (hp.ext (by (repeat (first | exact Ext.refl _ | assumption | apply Ext.alloc | apply Ext.drew | apply Ext.drewN | (refine Ext.trans ?_ (by assumption)))))) hf).mono ?_; rintro e w2 ⟨rfl, hb2⟩))
      go_ret
      exact ⟨rfl, by (repeat (first | exact Ext.refl _ | assumption | apply Ext.alloc | apply Ext.drew | apply Ext.drewN | (refine Ext.trans ?_ (by assumption))))⟩
  · rw [if_neg h]
    go_enter Try.func16, Try.ntmps16
    go_wp2
    go_ret
    exact ⟨rfl, by (repeat (first | exact Ext.refl _ | assumption | apply Ext.alloc | apply Ext.drew | apply Ext.drewN | (refine Ext.trans ?_ (by assumption))))⟩

end Go.Proofs.Ytjccilpjaaiicaa

