/-
  All rooms that may be drawn before they are turned: the shapes with corners displaced; a test run over all of them by the kernel. No program in sight.
-/
import Derived.Test.YtanagdlikoinaaaDrawR
namespace Go.Proofs.Ytanagdlikoinaaa
open Go.RowKit

/-- displacements of at most b, each with its size -/
def dsp : Nat → List (Int × Int × Nat)
  | 0 => [(0, 0, 0)]
  | 1 => [(0, 0, 0), (-1, -1, 1), (-1, 0, 1), (-1, 1, 1), (0, -1, 1), (0, 1, 1), (1, -1, 1), (1, 0, 1), (1, 1, 1)]
  | 2 => [(0, 0, 0), (-1, -1, 1), (-1, 0, 1), (-1, 1, 1), (0, -1, 1), (0, 1, 1), (1, -1, 1), (1, 0, 1), (1, 1, 1), (-2, -2, 2), (-2, -1, 2), (-2, 0, 2), (-2, 1, 2), (-2, 2, 2), (-1, -2, 2), (-1, 2, 2), (0, -2, 2), (0, 2, 2), (1, -2, 2), (1, 2, 2), (2, -2, 2), (2, -1, 2), (2, 0, 2), (2, 1, 2), (2, 2, 2)]
  | _ => [(0, 0, 0), (-1, -1, 1), (-1, 0, 1), (-1, 1, 1), (0, -1, 1), (0, 1, 1), (1, -1, 1), (1, 0, 1), (1, 1, 1), (-2, -2, 2), (-2, -1, 2), (-2, 0, 2), (-2, 1, 2), (-2, 2, 2), (-1, -2, 2), (-1, 2, 2), (0, -2, 2), (0, 2, 2), (1, -2, 2), (1, 2, 2), (2, -2, 2), (2, -1, 2), (2, 0, 2), (2, 1, 2), (2, 2, 2), (-3, -3, 3), (-3, -2, 3), (-3, -1, 3), (-3, 0, 3), (-3, 1, 3), (-3, 2, 3), (-3, 3, 3), (-2, -3, 3), (-2, 3, 3), (-1, -3, 3), (-1, 3, 3), (0, -3, 3), (0, 3, 3), (1, -3, 3), (1, 3, 3), (2, -3, 3), (2, 3, 3), (3, -3, 3), (3, -2, 3), (3, -1, 3), (3, 0, 3), (3, 1, 3), (3, 2, 3), (3, 3, 3)]

/-- the test f at all lists that lie at most b from s -/
def chk : List (Int × Int) → Nat → (List (Int × Int) → Bool) → Bool
  | [], _, f => f []
  | p :: r, b, f => (dsp b).all fun d => chk r (b - d.2.2) fun t => f ((p.1 + d.1, p.2 + d.2.1) :: t)
/-- how far two points are apart -/
def far1 (p q : Int × Int) : Nat := max (q.1 - p.1).natAbs (q.2 - p.2).natAbs
/-- how far two lists are apart -/
def farL : List (Int × Int) → List (Int × Int) → Nat
  | p :: s, q :: l => far1 p q + farL s l
  | _, _ => 0

theorem dsp_all : ∀ b, b < 4 → ∀ i, i < 7 → ∀ j, j < 7 → max ((i : Nat) - 3 : Int).natAbs ((j : Nat) - 3 : Int).natAbs ≤ b → (((i : Nat) - 3 : Int), ((j : Nat) - 3 : Int), max ((i : Nat) - 3 : Int).natAbs ((j : Nat) - 3 : Int).natAbs) ∈ dsp b := by
  have h : ((List.range 4).all fun b => (List.range 7).all fun i => (List.range 7).all fun j => decide (max ((i : Nat) - 3 : Int).natAbs ((j : Nat) - 3 : Int).natAbs ≤ b → (((i : Nat) - 3 : Int), ((j : Nat) - 3 : Int), max ((i : Nat) - 3 : Int).natAbs ((j : Nat) - 3 : Int).natAbs) ∈ dsp b)) = true := by decide +kernel
  intro b hb i hi j hj
  have h1 := List.all_eq_true.1 h b (List.mem_range.2 hb)
  have h2 := List.all_eq_true.1 h1 i (List.mem_range.2 hi)
  have h3 := List.all_eq_true.1 h2 j (List.mem_range.2 hj)
  exact of_decide_eq_true h3
theorem dsp_mem {b : Nat} (hb : b < 4) {x y : Int} (h : max x.natAbs y.natAbs ≤ b) : (x, y, max x.natAbs y.natAbs) ∈ dsp b := by
  have hx : (((x + 3).toNat : Nat) - 3 : Int) = x := by omega
  have hy : (((y + 3).toNat : Nat) - 3 : Int) = y := by omega
  have := dsp_all b hb (x + 3).toNat (by omega) (y + 3).toNat (by omega)
  rw [hx, hy] at this
  exact this h

theorem chk_sound : ∀ (s : List (Int × Int)) (b : Nat) (f : List (Int × Int) → Bool), b < 4 → chk s b f = true → ∀ l, l.length = s.length → farL s l ≤ b → f l = true
  | [], b, f, _, h, l, hl, _ => by
    have e : l = [] := List.eq_nil_of_length_eq_zero (by simpa using hl)
    subst e
    exact h
  | p :: s, b, f, hb, h, l, hl, hf => by
    match l, hl, hf with
    | q :: l, hl, hf =>
      unfold chk at h
      rw [List.all_eq_true] at h
      have hf' : far1 p q + farL s l ≤ b := hf
      have hm := dsp_mem hb (x := q.1 - p.1) (y := q.2 - p.2) (by unfold far1 at hf'; omega)
      have h2 := h _ hm
      have h3 := chk_sound s _ _ (by omega) h2 l (by simpa using hl) (by unfold far1 at hf'; simp only; omega)
      have e1 : p.1 + (q.1 - p.1) = q.1 := by omega
      have e2 : p.2 + (q.2 - p.2) = q.2 := by omega
      simp only [e1, e2] at h3
      exact h3

theorem dsp_head : ∀ b, dsp b = (0, 0, 0) :: (dsp b).drop 1
  | 0 => rfl
  | 1 => rfl
  | 2 => rfl
  | _ + 3 => rfl
/-- the test in two parts: the first point stays, or it does not -/
theorem chk_split (p : Int × Int) (r : List (Int × Int)) (b : Nat) (f : List (Int × Int) → Bool) (h0 : chk r b (fun t => f (p :: t)) = true) (h1 : ((dsp b).drop 1).all (fun d => chk r (b - d.2.2) fun t => f ((p.1 + d.1, p.2 + d.2.1) :: t)) = true) : chk (p :: r) b f = true := by
  unfold chk
  rw [dsp_head b, List.all_cons, h1, Bool.and_true, Nat.sub_zero]
  have e : (fun t => f ((p.1 + (0 : Int), p.2 + (0 : Int)) :: t)) = fun t => f (p :: t) := by
    funext t
    rw [Int.add_zero, Int.add_zero]
  show chk r b (fun t => f ((p.1 + (0 : Int), p.2 + (0 : Int)) :: t)) = true
  rw [e]
  exact h0
theorem all_parts {α : Type} (k : Nat) (l : List α) (f : α → Bool) (h1 : (l.take k).all f = true) (h2 : (l.drop k).all f = true) : l.all f = true := by
  rw [← List.take_append_drop k l, List.all_append, h1, h2]
  rfl

theorem far1_step {p q q' : Int × Int} (h1 : -1 ≤ q'.1 - q.1 ∧ q'.1 - q.1 ≤ 1) (h2 : -1 ≤ q'.2 - q.2 ∧ q'.2 - q.2 ≤ 1) : far1 p q' ≤ far1 p q + 1 := by
  unfold far1
  omega
theorem farL_set : ∀ (s l : List (Int × Int)) (i : Nat) (q' : Int × Int), l.length = s.length → (∀ q, l[i]? = some q → (-1 ≤ q'.1 - q.1 ∧ q'.1 - q.1 ≤ 1) ∧ (-1 ≤ q'.2 - q.2 ∧ q'.2 - q.2 ≤ 1)) → farL s (l.set i q') ≤ farL s l + 1
  | [], l, i, q', hl, _ => by
    have e : l = [] := List.eq_nil_of_length_eq_zero (by simpa using hl)
    subst e
    simp [farL]
  | p :: s, [], i, q', hl, _ => by simp at hl
  | p :: s, q :: l, 0, q', hl, h => by
    have h0 := h q rfl
    have := far1_step (p := p) h0.1 h0.2
    show far1 p q' + farL s l ≤ far1 p q + farL s l + 1
    omega
  | p :: s, q :: l, i + 1, q', hl, h => by
    have := farL_set s l i q' (by simpa using hl) (fun r hr => h r (by simpa using hr))
    show far1 p q + farL s (l.set i q') ≤ far1 p q + farL s l + 1
    omega
theorem farL_self : ∀ s : List (Int × Int), farL s s = 0
  | [] => rfl
  | p :: s => by
    show far1 p p + farL s s = 0
    rw [farL_self s]
    simp [far1]
theorem Reach.far {s j : Nat} {l : List (Int × Int)} (h : Reach s j l) : farL (shp s) l ≤ j := by
  induction h with
  | base => rw [farL_self]; exact Nat.le_refl _
  | stay _ ih => omega
  | @move j l i dx dy hre hi h1 h2 _ ih =>
    have := farL_set (shp s) l i (gx l i + dx, gy l i + dy) hre.len (fun q hq => by
      have e : (gx l i, gy l i) = q := by
        have e2 : (gx l i, gy l i) = l.getD i (0, 0) := rfl
        rw [e2, List.getD_eq_getElem?_getD, hq]
        rfl
      subst e
      simp only
      omega)
    unfold mvd
    omega
/-- a test that holds at all lists near the shapes holds at what may be reached -/
theorem Reach.test {s j : Nat} {l : List (Int × Int)} (h : Reach s j l) (hj : j ≤ 3) (f : List (Int × Int) → Bool) (hf : chk (shp s) 3 f = true) : f l = true :=
  chk_sound (shp s) 3 f (by omega) hf l h.len (by have := h.far; omega)

end Go.Proofs.Ytanagdlikoinaaa
