/-
  Triangles that fill a room, for all rooms that may be drawn: the tests, shape by shape. No program in sight.
-/
import Derived.Test.YtjccilpjaaiicaaJ5
namespace Go.Proofs.Ytjccilpjaaiicaa
namespace Jor

def ps : Int → Bool
  | .ofNat (_ + 1) => true
  | _ => false
theorem ps_iff (x : Int) : ps x = true ↔ 0 < x := by
  cases x with
  | ofNat n =>
    cases n with
    | zero => exact ⟨fun h => (by cases h), fun h => absurd h (by decide)⟩
    | succ n => exact ⟨fun _ => by simp, fun _ => rfl⟩
  | negSucc n => exact ⟨fun h => (by cases h), fun h => absurd h (by simp)⟩
def tq (a b c : P) : Bool := ps (turnZ a.1 a.2 b.1 b.2 c.1 c.2)
def nq (a b c : P) : Bool := neg (turnZ a.1 a.2 b.1 b.2 c.1 c.2)
def posB (l : List P) (t : T3) : Bool := tq (pt l t.1) (pt l t.2.1) (pt l t.2.2)
def negB (l : List P) (t : T3) : Bool := nq (pt l t.1) (pt l t.2.1) (pt l t.2.2)
/-- triangles to try -/
def cands : Nat → List (List T3)
  | 0 => [[(0, 1, 3), (1, 2, 3)], [(0, 2, 3), (0, 1, 2)]]
  | 1 => [[(0, 1, 2)]]
  | 2 => [[(0, 3, 5), (0, 1, 3), (1, 2, 3), (3, 4, 5)], [(0, 4, 5), (0, 3, 4), (0, 2, 3), (0, 1, 2)], [(0, 3, 5), (0, 2, 3), (0, 1, 2), (3, 4, 5)], [(0, 4, 5), (0, 3, 4), (0, 1, 3), (1, 2, 3)]]
  | 3 => [[(0, 3, 4), (0, 1, 3), (1, 2, 3)]]
  | 4 => [[(0, 5, 6), (0, 1, 5), (1, 3, 5), (1, 2, 3), (3, 4, 5)], [(0, 5, 6), (0, 3, 5), (0, 1, 3), (1, 2, 3), (3, 4, 5)]]
  | 5 => [[(0, 8, 9), (0, 1, 8), (1, 7, 8), (1, 2, 7), (2, 6, 7), (2, 3, 6), (3, 4, 6), (4, 5, 6)], [(0, 1, 9), (1, 8, 9), (1, 2, 8), (2, 7, 8), (2, 3, 7), (3, 6, 7), (3, 4, 6), (4, 5, 6)], [(0, 1, 9), (1, 8, 9), (1, 2, 8), (2, 7, 8), (2, 6, 7), (2, 3, 6), (3, 5, 6), (3, 4, 5)], [(0, 8, 9), (0, 1, 8), (1, 2, 8), (2, 7, 8), (2, 3, 7), (3, 6, 7), (3, 5, 6), (3, 4, 5)], [(0, 1, 9), (1, 8, 9), (1, 2, 8), (2, 7, 8), (2, 3, 7), (3, 5, 7), (3, 4, 5), (5, 6, 7)], [(0, 1, 9), (1, 8, 9), (1, 7, 8), (1, 2, 7), (2, 3, 7), (3, 6, 7), (3, 5, 6), (3, 4, 5)], [(0, 1, 9), (1, 8, 9), (1, 2, 8), (2, 7, 8), (2, 3, 7), (3, 4, 7), (4, 6, 7), (4, 5, 6)], [(0, 1, 9), (1, 8, 9), (1, 2, 8), (2, 7, 8), (2, 5, 7), (2, 3, 5), (3, 4, 5), (5, 6, 7)]]
  | 6 => [[(0, 1, 5), (1, 3, 5), (1, 2, 3), (3, 4, 5)], [(0, 1, 5), (1, 4, 5), (1, 3, 4), (1, 2, 3)], [(0, 1, 5), (1, 2, 5), (2, 3, 5), (3, 4, 5)], [(0, 3, 5), (0, 1, 3), (1, 2, 3), (3, 4, 5)]]
  | _ => [[(0, 1, 4), (1, 2, 4), (2, 3, 4)], [(0, 3, 4), (0, 1, 3), (1, 2, 3)], [(0, 2, 4), (0, 1, 2), (2, 3, 4)], [(0, 1, 4), (1, 3, 4), (1, 2, 3)]]
/-- the corners to try for one that sticks in -/
def rxs : Nat → List T3
  | 0 => [(0, 1, 2), (1, 2, 3), (2, 3, 0), (3, 0, 1)]
  | 1 => []
  | 2 => [(2, 3, 4), (0, 1, 2), (1, 2, 3), (3, 4, 5), (4, 5, 0), (5, 0, 1)]
  | 3 => [(2, 3, 4)]
  | 4 => [(2, 3, 4)]
  | 5 => [(7, 8, 9), (6, 7, 8), (5, 6, 7), (4, 5, 6), (0, 1, 2), (1, 2, 3), (2, 3, 4), (3, 4, 5), (8, 9, 0), (9, 0, 1)]
  | 6 => [(0, 1, 2), (2, 3, 4), (4, 5, 0), (1, 2, 3), (3, 4, 5), (5, 0, 1)]
  | _ => [(3, 4, 0), (0, 1, 2), (1, 2, 3), (2, 3, 4), (4, 0, 1)]
/-- walls and corners -/
def hxs : Nat → List T3
  | 0 => [(0, 1, 2), (0, 1, 3), (1, 2, 0), (1, 2, 3), (2, 3, 0), (2, 3, 1), (3, 0, 1), (3, 0, 2)]
  | 1 => [(0, 1, 2), (1, 2, 0), (2, 0, 1)]
  | 2 => [(0, 1, 2), (0, 1, 3), (0, 1, 4), (0, 1, 5), (1, 2, 0), (1, 2, 3), (1, 2, 4), (1, 2, 5), (2, 3, 0), (2, 3, 1), (2, 3, 4), (2, 3, 5), (3, 4, 0), (3, 4, 1), (3, 4, 2), (3, 4, 5), (4, 5, 0), (4, 5, 1), (4, 5, 2), (4, 5, 3), (5, 0, 1), (5, 0, 2), (5, 0, 3), (5, 0, 4)]
  | 3 => [(0, 0, 0)]
  | 4 => [(0, 0, 0)]
  | 5 => [(0, 0, 0)]
  | 6 => [(0, 0, 0)]
  | _ => [(0, 1, 2), (0, 1, 3), (0, 1, 4), (1, 2, 0), (1, 2, 3), (1, 2, 4), (2, 3, 0), (2, 3, 1), (2, 3, 4), (3, 4, 0), (3, 4, 1), (3, 4, 2), (4, 0, 1), (4, 0, 2), (4, 0, 3)]
def flatS (s : Nat) : Bool := s == 0 || (s == 1 || (s == 2 || s == 7))
/-- what the test says -/
def Good (s : Nat) (l : List P) : Prop := (cands s).any (fun ts => ts.all (posB l)) = true ∧ ((rxs s).any (negB l) || (flatS s && (hxs s).all (fun t => !negB l t))) = true
def tst0 : List P → Bool
  | [a0, a1, a2, a3] => cond (((tq a0 a1 a3 && (tq a1 a2 a3 && true)) || ((tq a0 a2 a3 && (tq a0 a1 a2 && true)) || false)) && ((nq a0 a1 a2 || (nq a1 a2 a3 || (nq a2 a3 a0 || (nq a3 a0 a1 || false)))) || (true && (!nq a0 a1 a2 && (!nq a0 a1 a3 && (!nq a1 a2 a0 && (!nq a1 a2 a3 && (!nq a2 a3 a0 && (!nq a2 a3 a1 && (!nq a3 a0 a1 && (!nq a3 a0 a2 && true))))))))))) true (badB [a0, a1, a2, a3])
  | _ => false
theorem tst0_sound {l : List P} (hl : l.length = 4) (h : tst0 l = true) : badB l = true ∨ Good 0 l := by
  rcases l with _ | ⟨a0, l⟩
  · simp at hl
  rcases l with _ | ⟨a1, l⟩
  · simp at hl
  rcases l with _ | ⟨a2, l⟩
  · simp at hl
  rcases l with _ | ⟨a3, l⟩
  · simp at hl
  rcases l with _ | ⟨a4, l⟩
  · unfold tst0 at h
    by_cases hg : Good 0 [a0, a1, a2, a3]
    · exact .inr hg
    · refine .inl ?_
      cases hc : (((tq a0 a1 a3 && (tq a1 a2 a3 && true)) || ((tq a0 a2 a3 && (tq a0 a1 a2 && true)) || false)) && ((nq a0 a1 a2 || (nq a1 a2 a3 || (nq a2 a3 a0 || (nq a3 a0 a1 || false)))) || (true && (!nq a0 a1 a2 && (!nq a0 a1 a3 && (!nq a1 a2 a0 && (!nq a1 a2 a3 && (!nq a2 a3 a0 && (!nq a2 a3 a1 && (!nq a3 a0 a1 && (!nq a3 a0 a2 && true)))))))))))
      · change cond (((tq a0 a1 a3 && (tq a1 a2 a3 && true)) || ((tq a0 a2 a3 && (tq a0 a1 a2 && true)) || false)) && ((nq a0 a1 a2 || (nq a1 a2 a3 || (nq a2 a3 a0 || (nq a3 a0 a1 || false)))) || (true && (!nq a0 a1 a2 && (!nq a0 a1 a3 && (!nq a1 a2 a0 && (!nq a1 a2 a3 && (!nq a2 a3 a0 && (!nq a2 a3 a1 && (!nq a3 a0 a1 && (!nq a3 a0 a2 && true))))))))))) true (badB [a0, a1, a2, a3]) = true at h
        rw [hc] at h
        exact h
      · exact absurd ((Bool.and_eq_true _ _).mp hc) hg
  · simp at hl
def tst1 : List P → Bool
  | [a0, a1, a2] => cond (((tq a0 a1 a2 && true) || false) && ((false) || (true && (!nq a0 a1 a2 && (!nq a1 a2 a0 && (!nq a2 a0 a1 && true)))))) true (badB [a0, a1, a2])
  | _ => false
theorem tst1_sound {l : List P} (hl : l.length = 3) (h : tst1 l = true) : badB l = true ∨ Good 1 l := by
  rcases l with _ | ⟨a0, l⟩
  · simp at hl
  rcases l with _ | ⟨a1, l⟩
  · simp at hl
  rcases l with _ | ⟨a2, l⟩
  · simp at hl
  rcases l with _ | ⟨a3, l⟩
  · unfold tst1 at h
    by_cases hg : Good 1 [a0, a1, a2]
    · exact .inr hg
    · refine .inl ?_
      cases hc : (((tq a0 a1 a2 && true) || false) && ((false) || (true && (!nq a0 a1 a2 && (!nq a1 a2 a0 && (!nq a2 a0 a1 && true))))))
      · change cond (((tq a0 a1 a2 && true) || false) && ((false) || (true && (!nq a0 a1 a2 && (!nq a1 a2 a0 && (!nq a2 a0 a1 && true)))))) true (badB [a0, a1, a2]) = true at h
        rw [hc] at h
        exact h
      · exact absurd ((Bool.and_eq_true _ _).mp hc) hg
  · simp at hl
def tst2 : List P → Bool
  | [a0, a1, a2, a3, a4, a5] => cond (((tq a0 a3 a5 && (tq a0 a1 a3 && (tq a1 a2 a3 && (tq a3 a4 a5 && true)))) || ((tq a0 a4 a5 && (tq a0 a3 a4 && (tq a0 a2 a3 && (tq a0 a1 a2 && true)))) || ((tq a0 a3 a5 && (tq a0 a2 a3 && (tq a0 a1 a2 && (tq a3 a4 a5 && true)))) || ((tq a0 a4 a5 && (tq a0 a3 a4 && (tq a0 a1 a3 && (tq a1 a2 a3 && true)))) || false)))) && ((nq a2 a3 a4 || (nq a0 a1 a2 || (nq a1 a2 a3 || (nq a3 a4 a5 || (nq a4 a5 a0 || (nq a5 a0 a1 || false)))))) || (true && (!nq a0 a1 a2 && (!nq a0 a1 a3 && (!nq a0 a1 a4 && (!nq a0 a1 a5 && (!nq a1 a2 a0 && (!nq a1 a2 a3 && (!nq a1 a2 a4 && (!nq a1 a2 a5 && (!nq a2 a3 a0 && (!nq a2 a3 a1 && (!nq a2 a3 a4 && (!nq a2 a3 a5 && (!nq a3 a4 a0 && (!nq a3 a4 a1 && (!nq a3 a4 a2 && (!nq a3 a4 a5 && (!nq a4 a5 a0 && (!nq a4 a5 a1 && (!nq a4 a5 a2 && (!nq a4 a5 a3 && (!nq a5 a0 a1 && (!nq a5 a0 a2 && (!nq a5 a0 a3 && (!nq a5 a0 a4 && true))))))))))))))))))))))))))) true (badB [a0, a1, a2, a3, a4, a5])
  | _ => false
theorem tst2_sound {l : List P} (hl : l.length = 6) (h : tst2 l = true) : badB l = true ∨ Good 2 l := by
  rcases l with _ | ⟨a0, l⟩
  · simp at hl
  rcases l with _ | ⟨a1, l⟩
  · simp at hl
  rcases l with _ | ⟨a2, l⟩
  · simp at hl
  rcases l with _ | ⟨a3, l⟩
  · simp at hl
  rcases l with _ | ⟨a4, l⟩
  · simp at hl
  rcases l with _ | ⟨a5, l⟩
  · simp at hl
  rcases l with _ | ⟨a6, l⟩
  · unfold tst2 at h
    by_cases hg : Good 2 [a0, a1, a2, a3, a4, a5]
    · exact .inr hg
    · refine .inl ?_
      cases hc : (((tq a0 a3 a5 && (tq a0 a1 a3 && (tq a1 a2 a3 && (tq a3 a4 a5 && true)))) || ((tq a0 a4 a5 && (tq a0 a3 a4 && (tq a0 a2 a3 && (tq a0 a1 a2 && true)))) || ((tq a0 a3 a5 && (tq a0 a2 a3 && (tq a0 a1 a2 && (tq a3 a4 a5 && true)))) || ((tq a0 a4 a5 && (tq a0 a3 a4 && (tq a0 a1 a3 && (tq a1 a2 a3 && true)))) || false)))) && ((nq a2 a3 a4 || (nq a0 a1 a2 || (nq a1 a2 a3 || (nq a3 a4 a5 || (nq a4 a5 a0 || (nq a5 a0 a1 || false)))))) || (true && (!nq a0 a1 a2 && (!nq a0 a1 a3 && (!nq a0 a1 a4 && (!nq a0 a1 a5 && (!nq a1 a2 a0 && (!nq a1 a2 a3 && (!nq a1 a2 a4 && (!nq a1 a2 a5 && (!nq a2 a3 a0 && (!nq a2 a3 a1 && (!nq a2 a3 a4 && (!nq a2 a3 a5 && (!nq a3 a4 a0 && (!nq a3 a4 a1 && (!nq a3 a4 a2 && (!nq a3 a4 a5 && (!nq a4 a5 a0 && (!nq a4 a5 a1 && (!nq a4 a5 a2 && (!nq a4 a5 a3 && (!nq a5 a0 a1 && (!nq a5 a0 a2 && (!nq a5 a0 a3 && (!nq a5 a0 a4 && true)))))))))))))))))))))))))))
      · change cond (((tq a0 a3 a5 && (tq a0 a1 a3 && (tq a1 a2 a3 && (tq a3 a4 a5 && true)))) || ((tq a0 a4 a5 && (tq a0 a3 a4 && (tq a0 a2 a3 && (tq a0 a1 a2 && true)))) || ((tq a0 a3 a5 && (tq a0 a2 a3 && (tq a0 a1 a2 && (tq a3 a4 a5 && true)))) || ((tq a0 a4 a5 && (tq a0 a3 a4 && (tq a0 a1 a3 && (tq a1 a2 a3 && true)))) || false)))) && ((nq a2 a3 a4 || (nq a0 a1 a2 || (nq a1 a2 a3 || (nq a3 a4 a5 || (nq a4 a5 a0 || (nq a5 a0 a1 || false)))))) || (true && (!nq a0 a1 a2 && (!nq a0 a1 a3 && (!nq a0 a1 a4 && (!nq a0 a1 a5 && (!nq a1 a2 a0 && (!nq a1 a2 a3 && (!nq a1 a2 a4 && (!nq a1 a2 a5 && (!nq a2 a3 a0 && (!nq a2 a3 a1 && (!nq a2 a3 a4 && (!nq a2 a3 a5 && (!nq a3 a4 a0 && (!nq a3 a4 a1 && (!nq a3 a4 a2 && (!nq a3 a4 a5 && (!nq a4 a5 a0 && (!nq a4 a5 a1 && (!nq a4 a5 a2 && (!nq a4 a5 a3 && (!nq a5 a0 a1 && (!nq a5 a0 a2 && (!nq a5 a0 a3 && (!nq a5 a0 a4 && true))))))))))))))))))))))))))) true (badB [a0, a1, a2, a3, a4, a5]) = true at h
        rw [hc] at h
        exact h
      · exact absurd ((Bool.and_eq_true _ _).mp hc) hg
  · simp at hl
def tst3 : List P → Bool
  | [a0, a1, a2, a3, a4] => cond (((tq a0 a3 a4 && (tq a0 a1 a3 && (tq a1 a2 a3 && true))) || false) && ((nq a2 a3 a4 || false) || (false && (!nq a0 a0 a0 && true)))) true (badB [a0, a1, a2, a3, a4])
  | _ => false
theorem tst3_sound {l : List P} (hl : l.length = 5) (h : tst3 l = true) : badB l = true ∨ Good 3 l := by
  rcases l with _ | ⟨a0, l⟩
  · simp at hl
  rcases l with _ | ⟨a1, l⟩
  · simp at hl
  rcases l with _ | ⟨a2, l⟩
  · simp at hl
  rcases l with _ | ⟨a3, l⟩
  · simp at hl
  rcases l with _ | ⟨a4, l⟩
  · simp at hl
  rcases l with _ | ⟨a5, l⟩
  · unfold tst3 at h
    by_cases hg : Good 3 [a0, a1, a2, a3, a4]
    · exact .inr hg
    · refine .inl ?_
      cases hc : (((tq a0 a3 a4 && (tq a0 a1 a3 && (tq a1 a2 a3 && true))) || false) && ((nq a2 a3 a4 || false) || (false && (!nq a0 a0 a0 && true))))
      · change cond (((tq a0 a3 a4 && (tq a0 a1 a3 && (tq a1 a2 a3 && true))) || false) && ((nq a2 a3 a4 || false) || (false && (!nq a0 a0 a0 && true)))) true (badB [a0, a1, a2, a3, a4]) = true at h
        rw [hc] at h
        exact h
      · exact absurd ((Bool.and_eq_true _ _).mp hc) hg
  · simp at hl
def tst4 : List P → Bool
  | [a0, a1, a2, a3, a4, a5, a6] => cond (((tq a0 a5 a6 && (tq a0 a1 a5 && (tq a1 a3 a5 && (tq a1 a2 a3 && (tq a3 a4 a5 && true))))) || ((tq a0 a5 a6 && (tq a0 a3 a5 && (tq a0 a1 a3 && (tq a1 a2 a3 && (tq a3 a4 a5 && true))))) || false)) && ((nq a2 a3 a4 || false) || (false && (!nq a0 a0 a0 && true)))) true (badB [a0, a1, a2, a3, a4, a5, a6])
  | _ => false
theorem tst4_sound {l : List P} (hl : l.length = 7) (h : tst4 l = true) : badB l = true ∨ Good 4 l := by
  rcases l with _ | ⟨a0, l⟩
  · simp at hl
  rcases l with _ | ⟨a1, l⟩
  · simp at hl
  rcases l with _ | ⟨a2, l⟩
  · simp at hl
  rcases l with _ | ⟨a3, l⟩
  · simp at hl
  rcases l with _ | ⟨a4, l⟩
  · simp at hl
  rcases l with _ | ⟨a5, l⟩
  · simp at hl
  rcases l with _ | ⟨a6, l⟩
  · simp at hl
  rcases l with _ | ⟨a7, l⟩
  · unfold tst4 at h
    by_cases hg : Good 4 [a0, a1, a2, a3, a4, a5, a6]
    · exact .inr hg
    · refine .inl ?_
      cases hc : (((tq a0 a5 a6 && (tq a0 a1 a5 && (tq a1 a3 a5 && (tq a1 a2 a3 && (tq a3 a4 a5 && true))))) || ((tq a0 a5 a6 && (tq a0 a3 a5 && (tq a0 a1 a3 && (tq a1 a2 a3 && (tq a3 a4 a5 && true))))) || false)) && ((nq a2 a3 a4 || false) || (false && (!nq a0 a0 a0 && true))))
      · change cond (((tq a0 a5 a6 && (tq a0 a1 a5 && (tq a1 a3 a5 && (tq a1 a2 a3 && (tq a3 a4 a5 && true))))) || ((tq a0 a5 a6 && (tq a0 a3 a5 && (tq a0 a1 a3 && (tq a1 a2 a3 && (tq a3 a4 a5 && true))))) || false)) && ((nq a2 a3 a4 || false) || (false && (!nq a0 a0 a0 && true)))) true (badB [a0, a1, a2, a3, a4, a5, a6]) = true at h
        rw [hc] at h
        exact h
      · exact absurd ((Bool.and_eq_true _ _).mp hc) hg
  · simp at hl
def tst5 : List P → Bool
  | [a0, a1, a2, a3, a4, a5, a6, a7, a8, a9] => cond (((tq a0 a8 a9 && (tq a0 a1 a8 && (tq a1 a7 a8 && (tq a1 a2 a7 && (tq a2 a6 a7 && (tq a2 a3 a6 && (tq a3 a4 a6 && (tq a4 a5 a6 && true)))))))) || ((tq a0 a1 a9 && (tq a1 a8 a9 && (tq a1 a2 a8 && (tq a2 a7 a8 && (tq a2 a3 a7 && (tq a3 a6 a7 && (tq a3 a4 a6 && (tq a4 a5 a6 && true)))))))) || ((tq a0 a1 a9 && (tq a1 a8 a9 && (tq a1 a2 a8 && (tq a2 a7 a8 && (tq a2 a6 a7 && (tq a2 a3 a6 && (tq a3 a5 a6 && (tq a3 a4 a5 && true)))))))) || ((tq a0 a8 a9 && (tq a0 a1 a8 && (tq a1 a2 a8 && (tq a2 a7 a8 && (tq a2 a3 a7 && (tq a3 a6 a7 && (tq a3 a5 a6 && (tq a3 a4 a5 && true)))))))) || ((tq a0 a1 a9 && (tq a1 a8 a9 && (tq a1 a2 a8 && (tq a2 a7 a8 && (tq a2 a3 a7 && (tq a3 a5 a7 && (tq a3 a4 a5 && (tq a5 a6 a7 && true)))))))) || ((tq a0 a1 a9 && (tq a1 a8 a9 && (tq a1 a7 a8 && (tq a1 a2 a7 && (tq a2 a3 a7 && (tq a3 a6 a7 && (tq a3 a5 a6 && (tq a3 a4 a5 && true)))))))) || ((tq a0 a1 a9 && (tq a1 a8 a9 && (tq a1 a2 a8 && (tq a2 a7 a8 && (tq a2 a3 a7 && (tq a3 a4 a7 && (tq a4 a6 a7 && (tq a4 a5 a6 && true)))))))) || ((tq a0 a1 a9 && (tq a1 a8 a9 && (tq a1 a2 a8 && (tq a2 a7 a8 && (tq a2 a5 a7 && (tq a2 a3 a5 && (tq a3 a4 a5 && (tq a5 a6 a7 && true)))))))) || false)))))))) && ((nq a7 a8 a9 || (nq a6 a7 a8 || (nq a5 a6 a7 || (nq a4 a5 a6 || (nq a0 a1 a2 || (nq a1 a2 a3 || (nq a2 a3 a4 || (nq a3 a4 a5 || (nq a8 a9 a0 || (nq a9 a0 a1 || false)))))))))) || (false && (!nq a0 a0 a0 && true)))) true (badB [a0, a1, a2, a3, a4, a5, a6, a7, a8, a9])
  | _ => false
theorem tst5_sound {l : List P} (hl : l.length = 10) (h : tst5 l = true) : badB l = true ∨ Good 5 l := by
  rcases l with _ | ⟨a0, l⟩
  · simp at hl
  rcases l with _ | ⟨a1, l⟩
  · simp at hl
  rcases l with _ | ⟨a2, l⟩
  · simp at hl
  rcases l with _ | ⟨a3, l⟩
  · simp at hl
  rcases l with _ | ⟨a4, l⟩
  · simp at hl
  rcases l with _ | ⟨a5, l⟩
  · simp at hl
  rcases l with _ | ⟨a6, l⟩
  · simp at hl
  rcases l with _ | ⟨a7, l⟩
  · simp at hl
  rcases l with _ | ⟨a8, l⟩
  · simp at hl
  rcases l with _ | ⟨a9, l⟩
  · simp at hl
  rcases l with _ | ⟨a10, l⟩
  · unfold tst5 at h
    by_cases hg : Good 5 [a0, a1, a2, a3, a4, a5, a6, a7, a8, a9]
    · exact .inr hg
    · refine .inl ?_
      cases hc : (((tq a0 a8 a9 && (tq a0 a1 a8 && (tq a1 a7 a8 && (tq a1 a2 a7 && (tq a2 a6 a7 && (tq a2 a3 a6 && (tq a3 a4 a6 && (tq a4 a5 a6 && true)))))))) || ((tq a0 a1 a9 && (tq a1 a8 a9 && (tq a1 a2 a8 && (tq a2 a7 a8 && (tq a2 a3 a7 && (tq a3 a6 a7 && (tq a3 a4 a6 && (tq a4 a5 a6 && true)))))))) || ((tq a0 a1 a9 && (tq a1 a8 a9 && (tq a1 a2 a8 && (tq a2 a7 a8 && (tq a2 a6 a7 && (tq a2 a3 a6 && (tq a3 a5 a6 && (tq a3 a4 a5 && true)))))))) || ((tq a0 a8 a9 && (tq a0 a1 a8 && (tq a1 a2 a8 && (tq a2 a7 a8 && (tq a2 a3 a7 && (tq a3 a6 a7 && (tq a3 a5 a6 && (tq a3 a4 a5 && true)))))))) || ((tq a0 a1 a9 && (tq a1 a8 a9 && (tq a1 a2 a8 && (tq a2 a7 a8 && (tq a2 a3 a7 && (tq a3 a5 a7 && (tq a3 a4 a5 && (tq a5 a6 a7 && true)))))))) || ((tq a0 a1 a9 && (tq a1 a8 a9 && (tq a1 a7 a8 && (tq a1 a2 a7 && (tq a2 a3 a7 && (tq a3 a6 a7 && (tq a3 a5 a6 && (tq a3 a4 a5 && true)))))))) || ((tq a0 a1 a9 && (tq a1 a8 a9 && (tq a1 a2 a8 && (tq a2 a7 a8 && (tq a2 a3 a7 && (tq a3 a4 a7 && (tq a4 a6 a7 && (tq a4 a5 a6 && true)))))))) || ((tq a0 a1 a9 && (tq a1 a8 a9 && (tq a1 a2 a8 && (tq a2 a7 a8 && (tq a2 a5 a7 && (tq a2 a3 a5 && (tq a3 a4 a5 && (tq a5 a6 a7 && true)))))))) || false)))))))) && ((nq a7 a8 a9 || (nq a6 a7 a8 || (nq a5 a6 a7 || (nq a4 a5 a6 || (nq a0 a1 a2 || (nq a1 a2 a3 || (nq a2 a3 a4 || (nq a3 a4 a5 || (nq a8 a9 a0 || (nq a9 a0 a1 || false)))))))))) || (false && (!nq a0 a0 a0 && true))))
      · change cond (((tq a0 a8 a9 && (tq a0 a1 a8 && (tq a1 a7 a8 && (tq a1 a2 a7 && (tq a2 a6 a7 && (tq a2 a3 a6 && (tq a3 a4 a6 && (tq a4 a5 a6 && true)))))))) || ((tq a0 a1 a9 && (tq a1 a8 a9 && (tq a1 a2 a8 && (tq a2 a7 a8 && (tq a2 a3 a7 && (tq a3 a6 a7 && (tq a3 a4 a6 && (tq a4 a5 a6 && true)))))))) || ((tq a0 a1 a9 && (tq a1 a8 a9 && (tq a1 a2 a8 && (tq a2 a7 a8 && (tq a2 a6 a7 && (tq a2 a3 a6 && (tq a3 a5 a6 && (tq a3 a4 a5 && true)))))))) || ((tq a0 a8 a9 && (tq a0 a1 a8 && (tq a1 a2 a8 && (tq a2 a7 a8 && (tq a2 a3 a7 && (tq a3 a6 a7 && (tq a3 a5 a6 && (tq a3 a4 a5 && true)))))))) || ((tq a0 a1 a9 && (tq a1 a8 a9 && (tq a1 a2 a8 && (tq a2 a7 a8 && (tq a2 a3 a7 && (tq a3 a5 a7 && (tq a3 a4 a5 && (tq a5 a6 a7 && true)))))))) || ((tq a0 a1 a9 && (tq a1 a8 a9 && (tq a1 a7 a8 && (tq a1 a2 a7 && (tq a2 a3 a7 && (tq a3 a6 a7 && (tq a3 a5 a6 && (tq a3 a4 a5 && true)))))))) || ((tq a0 a1 a9 && (tq a1 a8 a9 && (tq a1 a2 a8 && (tq a2 a7 a8 && (tq a2 a3 a7 && (tq a3 a4 a7 && (tq a4 a6 a7 && (tq a4 a5 a6 && true)))))))) || ((tq a0 a1 a9 && (tq a1 a8 a9 && (tq a1 a2 a8 && (tq a2 a7 a8 && (tq a2 a5 a7 && (tq a2 a3 a5 && (tq a3 a4 a5 && (tq a5 a6 a7 && true)))))))) || false)))))))) && ((nq a7 a8 a9 || (nq a6 a7 a8 || (nq a5 a6 a7 || (nq a4 a5 a6 || (nq a0 a1 a2 || (nq a1 a2 a3 || (nq a2 a3 a4 || (nq a3 a4 a5 || (nq a8 a9 a0 || (nq a9 a0 a1 || false)))))))))) || (false && (!nq a0 a0 a0 && true)))) true (badB [a0, a1, a2, a3, a4, a5, a6, a7, a8, a9]) = true at h
        rw [hc] at h
        exact h
      · exact absurd ((Bool.and_eq_true _ _).mp hc) hg
  · simp at hl
def tst6 : List P → Bool
  | [a0, a1, a2, a3, a4, a5] => cond (((tq a0 a1 a5 && (tq a1 a3 a5 && (tq a1 a2 a3 && (tq a3 a4 a5 && true)))) || ((tq a0 a1 a5 && (tq a1 a4 a5 && (tq a1 a3 a4 && (tq a1 a2 a3 && true)))) || ((tq a0 a1 a5 && (tq a1 a2 a5 && (tq a2 a3 a5 && (tq a3 a4 a5 && true)))) || ((tq a0 a3 a5 && (tq a0 a1 a3 && (tq a1 a2 a3 && (tq a3 a4 a5 && true)))) || false)))) && ((nq a0 a1 a2 || (nq a2 a3 a4 || (nq a4 a5 a0 || (nq a1 a2 a3 || (nq a3 a4 a5 || (nq a5 a0 a1 || false)))))) || (false && (!nq a0 a0 a0 && true)))) true (badB [a0, a1, a2, a3, a4, a5])
  | _ => false
theorem tst6_sound {l : List P} (hl : l.length = 6) (h : tst6 l = true) : badB l = true ∨ Good 6 l := by
  rcases l with _ | ⟨a0, l⟩
  · simp at hl
  rcases l with _ | ⟨a1, l⟩
  · simp at hl
  rcases l with _ | ⟨a2, l⟩
  · simp at hl
  rcases l with _ | ⟨a3, l⟩
  · simp at hl
  rcases l with _ | ⟨a4, l⟩
  · simp at hl
  rcases l with _ | ⟨a5, l⟩
  · simp at hl
  rcases l with _ | ⟨a6, l⟩
  · unfold tst6 at h
    by_cases hg : Good 6 [a0, a1, a2, a3, a4, a5]
    · exact .inr hg
    · refine .inl ?_
      cases hc : (((tq a0 a1 a5 && (tq a1 a3 a5 && (tq a1 a2 a3 && (tq a3 a4 a5 && true)))) || ((tq a0 a1 a5 && (tq a1 a4 a5 && (tq a1 a3 a4 && (tq a1 a2 a3 && true)))) || ((tq a0 a1 a5 && (tq a1 a2 a5 && (tq a2 a3 a5 && (tq a3 a4 a5 && true)))) || ((tq a0 a3 a5 && (tq a0 a1 a3 && (tq a1 a2 a3 && (tq a3 a4 a5 && true)))) || false)))) && ((nq a0 a1 a2 || (nq a2 a3 a4 || (nq a4 a5 a0 || (nq a1 a2 a3 || (nq a3 a4 a5 || (nq a5 a0 a1 || false)))))) || (false && (!nq a0 a0 a0 && true))))
      · change cond (((tq a0 a1 a5 && (tq a1 a3 a5 && (tq a1 a2 a3 && (tq a3 a4 a5 && true)))) || ((tq a0 a1 a5 && (tq a1 a4 a5 && (tq a1 a3 a4 && (tq a1 a2 a3 && true)))) || ((tq a0 a1 a5 && (tq a1 a2 a5 && (tq a2 a3 a5 && (tq a3 a4 a5 && true)))) || ((tq a0 a3 a5 && (tq a0 a1 a3 && (tq a1 a2 a3 && (tq a3 a4 a5 && true)))) || false)))) && ((nq a0 a1 a2 || (nq a2 a3 a4 || (nq a4 a5 a0 || (nq a1 a2 a3 || (nq a3 a4 a5 || (nq a5 a0 a1 || false)))))) || (false && (!nq a0 a0 a0 && true)))) true (badB [a0, a1, a2, a3, a4, a5]) = true at h
        rw [hc] at h
        exact h
      · exact absurd ((Bool.and_eq_true _ _).mp hc) hg
  · simp at hl
def tst7 : List P → Bool
  | [a0, a1, a2, a3, a4] => cond (((tq a0 a1 a4 && (tq a1 a2 a4 && (tq a2 a3 a4 && true))) || ((tq a0 a3 a4 && (tq a0 a1 a3 && (tq a1 a2 a3 && true))) || ((tq a0 a2 a4 && (tq a0 a1 a2 && (tq a2 a3 a4 && true))) || ((tq a0 a1 a4 && (tq a1 a3 a4 && (tq a1 a2 a3 && true))) || false)))) && ((nq a3 a4 a0 || (nq a0 a1 a2 || (nq a1 a2 a3 || (nq a2 a3 a4 || (nq a4 a0 a1 || false))))) || (true && (!nq a0 a1 a2 && (!nq a0 a1 a3 && (!nq a0 a1 a4 && (!nq a1 a2 a0 && (!nq a1 a2 a3 && (!nq a1 a2 a4 && (!nq a2 a3 a0 && (!nq a2 a3 a1 && (!nq a2 a3 a4 && (!nq a3 a4 a0 && (!nq a3 a4 a1 && (!nq a3 a4 a2 && (!nq a4 a0 a1 && (!nq a4 a0 a2 && (!nq a4 a0 a3 && true)))))))))))))))))) true (badB [a0, a1, a2, a3, a4])
  | _ => false
theorem tst7_sound {l : List P} (hl : l.length = 5) (h : tst7 l = true) : badB l = true ∨ Good 7 l := by
  rcases l with _ | ⟨a0, l⟩
  · simp at hl
  rcases l with _ | ⟨a1, l⟩
  · simp at hl
  rcases l with _ | ⟨a2, l⟩
  · simp at hl
  rcases l with _ | ⟨a3, l⟩
  · simp at hl
  rcases l with _ | ⟨a4, l⟩
  · simp at hl
  rcases l with _ | ⟨a5, l⟩
  · unfold tst7 at h
    by_cases hg : Good 7 [a0, a1, a2, a3, a4]
    · exact .inr hg
    · refine .inl ?_
      cases hc : (((tq a0 a1 a4 && (tq a1 a2 a4 && (tq a2 a3 a4 && true))) || ((tq a0 a3 a4 && (tq a0 a1 a3 && (tq a1 a2 a3 && true))) || ((tq a0 a2 a4 && (tq a0 a1 a2 && (tq a2 a3 a4 && true))) || ((tq a0 a1 a4 && (tq a1 a3 a4 && (tq a1 a2 a3 && true))) || false)))) && ((nq a3 a4 a0 || (nq a0 a1 a2 || (nq a1 a2 a3 || (nq a2 a3 a4 || (nq a4 a0 a1 || false))))) || (true && (!nq a0 a1 a2 && (!nq a0 a1 a3 && (!nq a0 a1 a4 && (!nq a1 a2 a0 && (!nq a1 a2 a3 && (!nq a1 a2 a4 && (!nq a2 a3 a0 && (!nq a2 a3 a1 && (!nq a2 a3 a4 && (!nq a3 a4 a0 && (!nq a3 a4 a1 && (!nq a3 a4 a2 && (!nq a4 a0 a1 && (!nq a4 a0 a2 && (!nq a4 a0 a3 && true))))))))))))))))))
      · change cond (((tq a0 a1 a4 && (tq a1 a2 a4 && (tq a2 a3 a4 && true))) || ((tq a0 a3 a4 && (tq a0 a1 a3 && (tq a1 a2 a3 && true))) || ((tq a0 a2 a4 && (tq a0 a1 a2 && (tq a2 a3 a4 && true))) || ((tq a0 a1 a4 && (tq a1 a3 a4 && (tq a1 a2 a3 && true))) || false)))) && ((nq a3 a4 a0 || (nq a0 a1 a2 || (nq a1 a2 a3 || (nq a2 a3 a4 || (nq a4 a0 a1 || false))))) || (true && (!nq a0 a1 a2 && (!nq a0 a1 a3 && (!nq a0 a1 a4 && (!nq a1 a2 a0 && (!nq a1 a2 a3 && (!nq a1 a2 a4 && (!nq a2 a3 a0 && (!nq a2 a3 a1 && (!nq a2 a3 a4 && (!nq a3 a4 a0 && (!nq a3 a4 a1 && (!nq a3 a4 a2 && (!nq a4 a0 a1 && (!nq a4 a0 a2 && (!nq a4 a0 a3 && true)))))))))))))))))) true (badB [a0, a1, a2, a3, a4]) = true at h
        rw [hc] at h
        exact h
      · exact absurd ((Bool.and_eq_true _ _).mp hc) hg
  · simp at hl

end Jor
end Go.Proofs.Ytjccilpjaaiicaa
