/- 14 texts joined: Enum PlaceL Place WallOf WallAt Corn JordL JordM JordN JordO TriA TriB TriC TriD. -/
import Derived.Test.YtanagdlikoinaaaJ3
import Derived.Test.YtanagdlikoinaaaJ2
namespace Go.Proofs.Ytanagdlikoinaaa
open Go.RowKit

/-- displacements of at most b, each with its size -/
def dsp : Nat → List (Int × Int × Nat)
  | 0 => [(0, 0, 0)]
  | 1 => [(0, 0, 0), (-1, -1, 1), (-1, 0, 1), (-1, 1, 1), (0, -1, 1), (0, 1, 1), (1, -1, 1), (1, 0, 1), (1, 1, 1)]
  | 2 => [(0, 0, 0), (-1, -1, 1), (-1, 0, 1), (-1, 1, 1), (0, -1, 1), (0, 1, 1), (1, -1, 1), (1, 0, 1), (1, 1, 1), (-2, -2, 2), (-2, -1, 2), (-2, 0, 2), (-2, 1, 2), (-2, 2, 2), (-1, -2, 2), (-1, 2, 2), (0, -2, 2), (0, 2, 2), (1, -2, 2), (1, 2, 2), (2, -2, 2), (2, -1, 2), (2, 0, 2), (2, 1, 2), (2, 2, 2)]
  | _ => [(0, 0, 0), (-1, -1, 1), (-1, 0, 1), (-1, 1, 1), (0, -1, 1), (0, 1, 1), (1, -1, 1), (1, 0, 1), (1, 1, 1), (-2, -2, 2), (-2, -1, 2), (-2, 0, 2), (-2, 1, 2), (-2, 2, 2), (-1, -2, 2), (-1, 2, 2), (0, -2, 2), (0, 2, 2), (1, -2, 2), (1, 2, 2), (2, -2, 2), (2, -1, 2), (2, 0, 2), (2, 1, 2), (2, 2, 2), (-3, -3, 3), (-3, -2, 3), (-3, -1, 3), (-3, 0, 3), (-3, 1, 3), (-3, 2, 3), (-3, 3, 3), (-2, -3, 3), (-2, 3, 3), (-1, -3, 3), (-1, 3, 3), (0, -3, 3), (0, 3, 3), (1, -3, 3), (1, 3, 3), (2, -3, 3), (2, 3, 3), (3, -3, 3), (3, -2, 3), (3, -1, 3), (3, 0, 3), (3, 1, 3), (3, 2, 3), (3, 3, 3)]

/-- the test f at all lists that lie at most b from s -/
def chk : List (Int × Int) → Nat → (List (Int × Int) → Bool) → Bool
  | [], _, f => f []
  | p :: r, b, f => (dsp b).all fun d => chk r (b - d.2.2) fun t => f ((p.1 + d.1, p.2 + d.2.1) :: t)
/-- how far two points are apart -/
def far1 (p q : Int × Int) : Nat := max (q.1 - p.1).natAbs (q.2 - p.2).natAbs
/-- how far two lists are apart -/
def farL : List (Int × Int) → List (Int × Int) → Nat
  | p :: s, q :: l => far1 p q + farL s l
  | _, _ => 0

theorem dsp_all : ∀ b, b < 4 → ∀ i, i < 7 → ∀ j, j < 7 → max ((i : Nat) - 3 : Int).natAbs ((j : Nat) - 3 : Int).natAbs ≤ b → (((i : Nat) - 3 : Int), ((j : Nat) - 3 : Int), max ((i : Nat) - 3 : Int).natAbs ((j : Nat) - 3 : Int).natAbs) ∈ dsp b := by
  have h : ((List.range 4).all fun b => (List.range 7).all fun i => (List.range 7).all fun j => decide (max ((i : Nat) - 3 : Int).natAbs ((j : Nat) - 3 : Int).natAbs ≤ b → (((i : Nat) - 3 : Int), ((j : Nat) - 3 : Int), max ((i : Nat) - 3 : Int).natAbs ((j : Nat) - 3 : Int).natAbs) ∈ dsp b)) = true := by decide +kernel
  intro b hb i hi j hj
  have h1 := List.all_eq_true.1 h b (List.mem_range.2 hb)
  have h2 := List.all_eq_true.1 h1 i (List.mem_range.2 hi)
  have h3 := List.all_eq_true.1 h2 j (List.mem_range.2 hj)
  exact of_decide_eq_true h3
theorem dsp_mem {b : Nat} (hb : b < 4) {x y : Int} (h : max x.natAbs y.natAbs ≤ b) : (x, y, max x.natAbs y.natAbs) ∈ dsp b := by
  have hx : (((x + 3).toNat : Nat) - 3 : Int) = x := by omega
  have hy : (((y + 3).toNat : Nat) - 3 : Int) = y := by omega
  have := dsp_all b hb (x + 3).toNat (by omega) (y + 3).toNat (by omega)
  rw [hx, hy] at this
  exact this h

theorem chk_sound : ∀ (s : List (Int × Int)) (b : Nat) (f : List (Int × Int) → Bool), b < 4 → chk s b f = true → ∀ l, l.length = s.length → farL s l ≤ b → f l = true
  | [], b, f, _, h, l, hl, _ => by
    have e : l = [] := List.eq_nil_of_length_eq_zero (by simpa using hl)
    subst e
    exact h
  | p :: s, b, f, hb, h, l, hl, hf => by
    match l, hl, hf with
    | q :: l, hl, hf =>
      unfold chk at h
      rw [List.all_eq_true] at h
      have hf' : far1 p q + farL s l ≤ b := hf
      have hm := dsp_mem hb (x := q.1 - p.1) (y := q.2 - p.2) (by unfold far1 at hf'; omega)
      have h2 := h _ hm
      have h3 := chk_sound s _ _ (by omega) h2 l (by simpa using hl) (by unfold far1 at hf'; simp only; omega)
      have e1 : p.1 + (q.1 - p.1) = q.1 := by omega
      have e2 : p.2 + (q.2 - p.2) = q.2 := by omega
      simp only [e1, e2] at h3
      exact h3

theorem dsp_head : ∀ b, dsp b = (0, 0, 0) :: (dsp b).drop 1
  | 0 => rfl
  | 1 => rfl
  | 2 => rfl
  | _ + 3 => rfl
/-- the test in two parts: the first point stays, or it does not -/
theorem chk_split (p : Int × Int) (r : List (Int × Int)) (b : Nat) (f : List (Int × Int) → Bool) (h0 : chk r b (fun t => f (p :: t)) = true) (h1 : ((dsp b).drop 1).all (fun d => chk r (b - d.2.2) fun t => f ((p.1 + d.1, p.2 + d.2.1) :: t)) = true) : chk (p :: r) b f = true := by
  unfold chk
  rw [dsp_head b, List.all_cons, h1, Bool.and_true, Nat.sub_zero]
  have e : (fun t => f ((p.1 + (0 : Int), p.2 + (0 : Int)) :: t)) = fun t => f (p :: t) := by
    funext t
    rw [Int.add_zero, Int.add_zero]
  show chk r b (fun t => f ((p.1 + (0 : Int), p.2 + (0 : Int)) :: t)) = true
  rw [e]
  exact h0
theorem all_parts {α : Type} (k : Nat) (l : List α) (f : α → Bool) (h1 : (l.take k).all f = true) (h2 : (l.drop k).all f = true) : l.all f = true := by
  rw [← List.take_append_drop k l, List.all_append, h1, h2]
  rfl

theorem far1_step {p q q' : Int × Int} (h1 : -1 ≤ q'.1 - q.1 ∧ q'.1 - q.1 ≤ 1) (h2 : -1 ≤ q'.2 - q.2 ∧ q'.2 - q.2 ≤ 1) : far1 p q' ≤ far1 p q + 1 := by
  unfold far1
  omega
theorem farL_set : ∀ (s l : List (Int × Int)) (i : Nat) (q' : Int × Int), l.length = s.length → (∀ q, l[i]? = some q → (-1 ≤ q'.1 - q.1 ∧ q'.1 - q.1 ≤ 1) ∧ (-1 ≤ q'.2 - q.2 ∧ q'.2 - q.2 ≤ 1)) → farL s (l.set i q') ≤ farL s l + 1
  | [], l, i, q', hl, _ => by
    have e : l = [] := List.eq_nil_of_length_eq_zero (by simpa using hl)
    subst e
    simp [farL]
  | p :: s, [], i, q', hl, _ => by simp at hl
  | p :: s, q :: l, 0, q', hl, h => by
    have h0 := h q rfl
    have := far1_step (p := p) h0.1 h0.2
    show far1 p q' + farL s l ≤ far1 p q + farL s l + 1
    omega
  | p :: s, q :: l, i + 1, q', hl, h => by
    have := farL_set s l i q' (by simpa using hl) (fun r hr => h r (by simpa using hr))
    show far1 p q + farL s (l.set i q') ≤ far1 p q + farL s l + 1
    omega
theorem farL_self : ∀ s : List (Int × Int), farL s s = 0
  | [] => rfl
  | p :: s => by
    show far1 p p + farL s s = 0
    rw [farL_self s]
    simp [far1]
theorem Reach.far {s j : Nat} {l : List (Int × Int)} (h : Reach s j l) : farL (shp s) l ≤ j := by
  induction h with
  | base => rw [farL_self]; exact Nat.le_refl _
  | stay _ ih => omega
  | @move j l i dx dy hre hi h1 h2 _ ih =>
    have := farL_set (shp s) l i (gx l i + dx, gy l i + dy) hre.len (fun q hq => by
      have e : (gx l i, gy l i) = q := by
        have e2 : (gx l i, gy l i) = l.getD i (0, 0) := rfl
        rw [e2, List.getD_eq_getElem?_getD, hq]
        rfl
      subst e
      simp only
      omega)
    unfold mvd
    omega
/-- a test that holds at all lists near the shapes holds at what may be reached -/
theorem Reach.test {s j : Nat} {l : List (Int × Int)} (h : Reach s j l) (hj : j ≤ 3) (f : List (Int × Int) → Bool) (hf : chk (shp s) 3 f = true) : f l = true :=
  chk_sound (shp s) 3 f (by omega) hf l h.len (by have := h.far; omega)

end Go.Proofs.Ytanagdlikoinaaa

namespace Go.Proofs.Ytanagdlikoinaaa
open Go.RowKit

/-- p lies on wall k -/
def onE (l : List (Int × Int)) (px py : Int) (k : Nat) : Bool := onW px py (gx l k) (gy l k) (gx l ((k + 1) % l.length)) (gy l ((k + 1) % l.length))
/-- the turn of wall k to p -/
def turnE (l : List (Int × Int)) (px py : Int) (k : Nat) : Int := turnW (gx l k) (gy l k) (gx l ((k + 1) % l.length)) (gy l ((k + 1) % l.length)) px py
/-- the way from p to the side crosses wall k: the program's words -/
def crI (l : List (Int × Int)) (px py : Int) (k : Nat) : Bool :=
  (decide (py < gy l k) != decide (py < gy l ((k + 1) % l.length))) && (decide (0 < turnE l px py k) == decide (gy l k < gy l ((k + 1) % l.length)))
/-- the reference's words -/
def crS (l : List (Int × Int)) (px py : Int) (k : Nat) : Bool :=
  ((decide (gy l k ≤ py) && decide (py < gy l ((k + 1) % l.length))) && decide (0 < turnE l px py k)) || ((decide (gy l ((k + 1) % l.length) ≤ py) && decide (py < gy l k)) && decide (turnE l px py k < 0))
/-- how often, odd or even, by the first k walls -/
def parTo (f : Nat → Bool) : Nat → Bool
  | 0 => false
  | k + 1 => if f k = true then !parTo f k else parTo f k
theorem parTo_succ (f : Nat → Bool) (k : Nat) : parTo f (k + 1) = if f k = true then !parTo f k else parTo f k := rfl
theorem parTo_congr (f g : Nat → Bool) : ∀ n, (∀ k, k < n → f k = g k) → parTo f n = parTo g n
  | 0, _ => rfl
  | n + 1, h => by
    rw [parTo_succ, parTo_succ, h n (by omega), parTo_congr f g n (fun k hk => h k (by omega))]
def sg (b : Bool) : Int := if b = true then 1 else -1
theorem sg_not (b : Bool) : sg (!b) = -sg b := by cases b <;> rfl
theorem sg_bd (b : Bool) : -1 ≤ sg b ∧ sg b ≤ 1 := by cases b <;> decide
/-- place, as the program gives it -/
def placeV (l : List (Int × Int)) (px py : Int) : Int := if (List.range l.length).any (onE l px py) = true then 1 else if parTo (crI l px py) l.length = true then 2 else 0
/-- the reference's l05Holds -/
def holdsV (l : List (Int × Int)) (px py : Int) : Int := if (List.range l.length).any (onE l px py) = true then 0 else sg (parTo (crS l px py) l.length)

theorem any_on {l : List (Int × Int)} {px py : Int} {k : Nat} (hk : k < l.length) (h : onE l px py k = true) : (List.range l.length).any (onE l px py) = true :=
  List.any_eq_true.2 ⟨k, List.mem_range.2 hk, h⟩
theorem any_off {l : List (Int × Int)} {px py : Int} (h : ∀ k, k < l.length → onE l px py k = false) : (List.range l.length).any (onE l px py) = false := by
  rw [List.any_eq_false]
  intro k hk
  simp [h k (List.mem_range.1 hk)]
theorem placeV_on {l : List (Int × Int)} {px py : Int} {k : Nat} (hk : k < l.length) (h : onE l px py k = true) : placeV l px py = 1 := by simp [placeV, any_on hk h]
theorem holdsV_on {l : List (Int × Int)} {px py : Int} {k : Nat} (hk : k < l.length) (h : onE l px py k = true) : holdsV l px py = 0 := by simp [holdsV, any_on hk h]
theorem placeV_off {l : List (Int × Int)} {px py : Int} (h : ∀ k, k < l.length → onE l px py k = false) : placeV l px py = if parTo (crI l px py) l.length = true then 2 else 0 := by
  simp [placeV, any_off h]
theorem holdsV_off {l : List (Int × Int)} {px py : Int} (h : ∀ k, k < l.length → onE l px py k = false) : holdsV l px py = sg (parTo (crS l px py) l.length) := by
  simp [holdsV, any_off h]

/-- a point on the line through a and b whose row lies between theirs lies between them -/
theorem on_of_line {ax ay bx by_ px py : Int} (ht : turnZ ax ay bx by_ px py = 0) (h : (ay ≤ py ∧ py < by_) ∨ (by_ ≤ py ∧ py < ay)) : min ax bx ≤ px ∧ px ≤ max ax bx := by
  have e : (bx - ax) * (py - ay) = (by_ - ay) * (px - ax) := by unfold turnZ at ht; omega
  rcases h with ⟨h1, h2⟩ | ⟨h1, h2⟩
  · have hD : 0 < by_ - ay := by omega
    rcases Int.le_total ax bx with hx | hx
    · rw [Int.min_eq_left hx, Int.max_eq_right hx]
      constructor
      · apply Int.le_of_not_gt; intro hlt
        have a1 := Int.mul_nonneg (show 0 ≤ bx - ax by omega) (show 0 ≤ py - ay by omega)
        have a2 := Int.mul_pos hD (show 0 < ax - px by omega)
        have a3 : (by_ - ay) * (ax - px) = -((by_ - ay) * (px - ax)) := by rw [← Int.mul_neg]; congr 1; omega
        omega
      · apply Int.le_of_not_gt; intro hlt
        have a1 := Int.mul_nonneg (show 0 ≤ bx - ax by omega) (show 0 ≤ by_ - py by omega)
        have a2 := Int.mul_pos hD (show 0 < px - bx by omega)
        have a3 : (bx - ax) * (by_ - py) = (bx - ax) * (by_ - ay) - (bx - ax) * (py - ay) := by rw [← Int.mul_sub]; congr 1; omega
        have a4 : (by_ - ay) * (px - bx) = (by_ - ay) * (px - ax) - (by_ - ay) * (bx - ax) := by rw [← Int.mul_sub]; congr 1; omega
        have a5 := Int.mul_comm (bx - ax) (by_ - ay)
        omega
    · rw [Int.min_eq_right hx, Int.max_eq_left hx]
      constructor
      · apply Int.le_of_not_gt; intro hlt
        have a1 := Int.mul_nonneg (show 0 ≤ ax - bx by omega) (show 0 ≤ by_ - py by omega)
        have a2 := Int.mul_pos hD (show 0 < bx - px by omega)
        have a3 : (ax - bx) * (by_ - py) = -((bx - ax) * (by_ - ay) - (bx - ax) * (py - ay)) := by rw [← Int.mul_sub, ← Int.neg_mul]; congr 1 <;> omega
        have a4 : (by_ - ay) * (bx - px) = (by_ - ay) * (bx - ax) - (by_ - ay) * (px - ax) := by rw [← Int.mul_sub]; congr 1; omega
        have a5 := Int.mul_comm (bx - ax) (by_ - ay)
        omega
      · apply Int.le_of_not_gt; intro hlt
        have a1 := Int.mul_nonneg (show 0 ≤ ax - bx by omega) (show 0 ≤ py - ay by omega)
        have a2 := Int.mul_pos hD (show 0 < px - ax by omega)
        have a3 : (ax - bx) * (py - ay) = -((bx - ax) * (py - ay)) := by rw [← Int.neg_mul]; congr 1; omega
        omega
  · have hD : 0 < ay - by_ := by omega
    have e' : (bx - ax) * (ay - py) = (ay - by_) * (px - ax) := by
      have b1 : (bx - ax) * (ay - py) = -((bx - ax) * (py - ay)) := by rw [← Int.mul_neg]; congr 1; omega
      have b2 : (ay - by_) * (px - ax) = -((by_ - ay) * (px - ax)) := by rw [← Int.neg_mul]; congr 1; omega
      omega
    rcases Int.le_total ax bx with hx | hx
    · rw [Int.min_eq_left hx, Int.max_eq_right hx]
      constructor
      · apply Int.le_of_not_gt; intro hlt
        have a1 := Int.mul_nonneg (show 0 ≤ bx - ax by omega) (show 0 ≤ ay - py by omega)
        have a2 := Int.mul_pos hD (show 0 < ax - px by omega)
        have a3 : (ay - by_) * (ax - px) = -((ay - by_) * (px - ax)) := by rw [← Int.mul_neg]; congr 1; omega
        omega
      · apply Int.le_of_not_gt; intro hlt
        have a1 := Int.mul_nonneg (show 0 ≤ bx - ax by omega) (show 0 ≤ py - by_ by omega)
        have a2 := Int.mul_pos hD (show 0 < px - bx by omega)
        have a3 : (bx - ax) * (py - by_) = (bx - ax) * (ay - by_) - (bx - ax) * (ay - py) := by rw [← Int.mul_sub]; congr 1; omega
        have a4 : (ay - by_) * (px - bx) = (ay - by_) * (px - ax) - (ay - by_) * (bx - ax) := by rw [← Int.mul_sub]; congr 1; omega
        have a5 := Int.mul_comm (bx - ax) (ay - by_)
        omega
    · rw [Int.min_eq_right hx, Int.max_eq_left hx]
      constructor
      · apply Int.le_of_not_gt; intro hlt
        have a1 := Int.mul_nonneg (show 0 ≤ ax - bx by omega) (show 0 ≤ py - by_ by omega)
        have a2 := Int.mul_pos hD (show 0 < bx - px by omega)
        have a3 : (ax - bx) * (py - by_) = -((bx - ax) * (ay - by_) - (bx - ax) * (ay - py)) := by rw [← Int.mul_sub, ← Int.neg_mul]; congr 1 <;> omega
        have a4 : (ay - by_) * (bx - px) = (ay - by_) * (bx - ax) - (ay - by_) * (px - ax) := by rw [← Int.mul_sub]; congr 1; omega
        have a5 := Int.mul_comm (bx - ax) (ay - by_)
        omega
      · apply Int.le_of_not_gt; intro hlt
        have a1 := Int.mul_nonneg (show 0 ≤ ax - bx by omega) (show 0 ≤ ay - py by omega)
        have a2 := Int.mul_pos hD (show 0 < px - ax by omega)
        have a3 : (ax - bx) * (ay - py) = -((bx - ax) * (ay - py)) := by rw [← Int.neg_mul]; congr 1; omega
        omega

/-- all points lie within M -/
def Small (M : Int) (l : List (Int × Int)) : Prop := ∀ k, k < l.length → within M (gx l k) (gy l k)

theorem cr_eq {l : List (Int × Int)} {px py : Int} {k : Nat} (hs : Small 1000000 l) (hq : within 1000000 px py) (hk : k < l.length) (ho : onE l px py k = false) : crI l px py k = crS l px py k := by
  have hm : (k + 1) % l.length < l.length := Nat.mod_lt _ (by omega)
  have ht : turnE l px py k = turnZ (gx l k) (gy l k) (gx l ((k + 1) % l.length)) (gy l ((k + 1) % l.length)) px py := turnW_eq (hs k hk) (hs _ hm) hq
  have hne : (gy l k ≤ py ∧ py < gy l ((k + 1) % l.length)) ∨ (gy l ((k + 1) % l.length) ≤ py ∧ py < gy l k) → turnE l px py k ≠ 0 := by
    intro h h0
    have hin := on_of_line (ht ▸ h0) h
    unfold onE at ho
    have : onW px py (gx l k) (gy l k) (gx l ((k + 1) % l.length)) (gy l ((k + 1) % l.length)) = true := by
      unfold onW inB
      have h0' : turnW (gx l k) (gy l k) (gx l ((k + 1) % l.length)) (gy l ((k + 1) % l.length)) px py = 0 := h0
      simp only [Bool.and_eq_true, decide_eq_true_eq]
      refine ⟨h0', hin, ?_⟩
      omega
    rw [this] at ho
    cases ho
  unfold crI crS
  generalize turnE l px py k = t at hne
  generalize gy l k = a at hne
  generalize gy l ((k + 1) % l.length) = b at hne
  rw [Bool.eq_iff_iff]
  simp only [Bool.and_eq_true, Bool.or_eq_true, bne_iff_ne, ne_eq, beq_iff_eq, decide_eq_decide, decide_eq_true_eq]
  by_cases h1 : py < a <;> by_cases h2 : py < b <;> simp [h1, h2] <;> omega

theorem place_holds {l : List (Int × Int)} {px py : Int} (hs : Small 1000000 l) (hq : within 1000000 px py) : placeV l px py = holdsV l px py + 1 := by
  unfold placeV holdsV
  cases h : (List.range l.length).any (onE l px py)
  · have ho : ∀ k, k < l.length → onE l px py k = false := fun k hk => by
      have := List.any_eq_false.1 h k (List.mem_range.2 hk)
      simpa using this
    rw [parTo_congr (crI l px py) (crS l px py) l.length (fun k hk => cr_eq hs hq hk (ho k hk))]
    cases parTo (crS l px py) l.length <;> rfl
  · rfl

theorem Fine.small {l : List (Int × Int)} (h : Fine l) : Small 1000000 l := fun k hk => within_more (within_of_pok (h.pok hk)) (by omega)

end Go.Proofs.Ytanagdlikoinaaa

namespace Go.Proofs.Ytanagdlikoinaaa
open Go.RowKit


set_option maxRecDepth 100000 in
set_option maxHeartbeats 4000000 in
theorem place_any (A : Option Addr) (l : List (Int × Int)) (c : Nat) (px py : Int) (w : World) (hp : RPts w A l) (hn : l.length ≤ 1048576) :
    Calls Try.prog 40 #[.slice A l.length c, .agg #[.int .i64 px, .int .i64 py]] w fun e w' => e = .returned (.int .i64 (placeV l px py)) ∧ Ext w w' := by
  have HB : Hid (∀ w', Ext (w.alloc (.cells #[.int .i64 px, .int .i64 py] 38)) w' → w'.cell? ⟨w.heap.size, 0, none⟩ = some (.int .i64 px) ∧ w'.cell? ⟨w.heap.size, 1, none⟩ = some (.int .i64 py) ∧ w.heap.size < w'.heap.size) := fun w' hx => by
    and_intros <;> (first | (have hz := hx.size; simp at hz; omega) | ((first | rw [hx.cells _ _ (by first | (simp; done) | (simp; omega))] | rw [hx.frozens _ _ (by first | (simp; done) | (simp; omega))]); (first | (simp [go_sem]; done) | (simp [go_sem, World.cell?_alloc_past]; done) | (simp [go_sem, World.frozen?]; done))))
  go_enter Try.func40, Try.ntmps40
  go_wp2
  go_loopw [5, 11] (fun b i wr => ∃ k : Nat, k ≤ l.length ∧ i = .int .i64 k ∧ b = .bool (parTo (crI l px py) k) ∧ Ext (w.alloc (.cells #[.int .i64 px, .int .i64 py] 38)) wr ∧ Hid (∀ j, j < k → onE l px py j = false)) (fun _ i _ => l.length - (intOf i).toNat)
  case atStart => exact ⟨0, Nat.zero_le _, rfl, rfl, by (repeat (first | exact Ext.refl _ | assumption | apply Ext.alloc | apply Ext.drew | apply Ext.drewN | (refine Ext.trans ?_ (by assumption)))), fun j hj => absurd hj (by omega)⟩
  case round =>
    obtain ⟨k, hk, rfl, rfl, hbl, HN⟩ := hrel
    obtain ⟨wq, rfl⟩ : ∃ wq : World, wq = wr := ⟨_, rfl⟩
    have fb0 := HB.out wq hbl
    by_cases hlt : k < l.length
    · have hm1 : (k + 1) % l.length < l.length := Nat.mod_lt _ (by omega)
      have hpr : RPts wq A l := hp.ext (by (repeat (first | exact Ext.refl _ | assumption | apply Ext.alloc | apply Ext.drew | apply Ext.drewN | (refine Ext.trans ?_ (by assumption)))))
      obtain ⟨b, off, rfl⟩ := hpr.some_ (by omega)
      obtain ⟨hz, hx0, hy0⟩ := hpr.cell hlt
      obtain ⟨_, hx1, hy1⟩ := hpr.cell hm1
      have hne : l ≠ [] := fun e => by rw [e] at hlt; simp at hlt
      obtain ⟨q1, q2, q3, q4, q5⟩ := idx_facts ((k : Int) + 1) (k + 1) l.length (by omega) (by omega) (by omega)
      have HQ : Hid (∀ w', Ext ((wq.alloc (.cells #[.int .i64 (gx l k), .int .i64 (gy l k)] 38)).alloc (.cells #[.int .i64 (gx l ((k + 1) % l.length)), .int .i64 (gy l ((k + 1) % l.length))] 38)) w' → w'.cell? ⟨wq.heap.size, 0, none⟩ = some (.int .i64 (gx l k)) ∧ w'.cell? ⟨wq.heap.size, 1, none⟩ = some (.int .i64 (gy l k)) ∧ wq.heap.size < w'.heap.size ∧ w'.cell? ⟨wq.heap.size + 1, 0, none⟩ = some (.int .i64 (gx l ((k + 1) % l.length))) ∧ w'.cell? ⟨wq.heap.size + 1, 1, none⟩ = some (.int .i64 (gy l ((k + 1) % l.length))) ∧ wq.heap.size + 1 < w'.heap.size) := fun w' hx => by
        and_intros <;> (first | (have hz := hx.size; simp at hz; omega) | ((first | rw [hx.cells _ _ (by first | (simp; done) | (simp; omega))] | rw [hx.frozens _ _ (by first | (simp; done) | (simp; omega))]); (first | (simp [go_sem]; done) | (simp [go_sem, World.cell?_alloc_past]; done) | (simp [go_sem, World.frozen?]; done))))
      cases ho : onE l px py k
      · have HO := hide ho
        unfold onE at ho
        go_wp2_with (go_at_call 41; refine (on_any _ _ _ _ _ _ _).mono ?_; rintro e w1 ⟨rfl, hb1⟩; have fb := HB.out w1 (by (repeat (first | exact Ext.refl _ | assumption | apply Ext.alloc | apply Ext.drew | apply Ext.drewN | (refine Ext.trans ?_ (by assumption))))); have fq := HQ.out w1 (by (repeat (first | exact Ext.refl _ | assumption | apply Ext.alloc | apply Ext.drew | apply Ext.drewN | (refine Ext.trans ?_ (by assumption))))))
        clear fb0 hx0 hy0 hx1 hy1 q1 q2 q3 q4 q5 ho
        cases e1 : decide (py < gy l k)
        · cases e2 : decide (py < gy l ((k + 1) % l.length))
          · have HC := hide (show parTo (crI l px py) (k + 1) = parTo (crI l px py) k by rw [parTo_succ]; unfold crI ; rw [e1, e2]; rfl)
            refine wp_flow (by kernel_rfl) (by kernel_rfl) (fun u => ⟨#[_, _, _, _, _, _, _, _, _, _, _, _, _, _, _, _, _, _, _, _, _, _, _, _, _, _, _, _, u 0, u 1, u 2, u 3, u 4, u 5, u 6, u 7, u 8, u 9, u 10, u 11, u 12, u 13, u 14, u 15, u 16, u 17, u 18, u 19, u 20, u 21, u 22, u 23, _, _, _, _], _⟩) (fun i => List.getD [_, _, _, _, _, _, _, _, _, _, _, _, _, _, _, _, _, _, _, _, _, _, _, _] i undef) [is ?v1_0, is ?v1_1, is ?v1_2, is ?v1_3, is ?v1_4, is ?v1_5, is ?v1_6, is ?v1_7, is ?v1_8, is ?v1_9, is ?v1_10, is ?v1_11, is ?v1_12, is ?v1_13, is ?v1_14, is ?v1_15, is ?v1_16, is ?v1_17, is ?v1_18, is ?v1_19, is ?v1_20, is ?v1_21, is ?v1_22, is ?v1_23] (fun w' => w'.cell? ⟨w.heap.size, 0, none⟩ = some (.int .i64 px) ∧ w'.cell? ⟨w.heap.size, 1, none⟩ = some (.int .i64 py) ∧ w.heap.size < w'.heap.size ∧ w'.cell? ⟨wq.heap.size, 0, none⟩ = some (.int .i64 (gx l k)) ∧ w'.cell? ⟨wq.heap.size, 1, none⟩ = some (.int .i64 (gy l k)) ∧ wq.heap.size < w'.heap.size ∧ w'.cell? ⟨wq.heap.size + 1, 0, none⟩ = some (.int .i64 (gx l ((k + 1) % l.length))) ∧ w'.cell? ⟨wq.heap.size + 1, 1, none⟩ = some (.int .i64 (gy l ((k + 1) % l.length))) ∧ wq.heap.size + 1 < w'.heap.size) _ rfl ?hC1 ?hs1 ?hV1 ?fin1
            case hC1 => exact fun w' hx => (by have hq : Ext _ w' := hx; have hf0 := HB.out w' (by (repeat (first | exact Ext.refl _ | assumption | apply Ext.alloc | apply Ext.drew | apply Ext.drewN | (refine Ext.trans ?_ (by assumption))))); have hf1 := HQ.out w' (by (repeat (first | exact Ext.refl _ | assumption | apply Ext.alloc | apply Ext.drew | apply Ext.drewN | (refine Ext.trans ?_ (by assumption))))); and_intros <;> first | exact hf0 | exact hf0.1 | exact hf0.2.1 | exact hf0.2.2.1 | exact hf0.2.2.2.1 | exact hf0.2.2.2.2.1 | exact hf0.2.2.2.2.2.1 | exact hf0.2.2.2.2.2.2.1 | exact hf0.2.2.2.2.2.2.2.1 | exact hf0.2.2.2.2.2.2.2.2.1 | exact hf0.2.2.2.2.2.2.2.2.2.1 | exact hf0.2.2.2.2.2.2.2.2.2.2.1 | exact hf0.2.2.2.2.2.2.2.2.2.2.2.1 | exact hf0.2.2.2.2.2.2.2.2.2.2.2.2.1 | exact hf0.2.2.2.2.2.2.2.2.2.2.2.2.2.1 | exact hf0.2 | exact hf0.2.2 | exact hf0.2.2.2 | exact hf0.2.2.2.2 | exact hf0.2.2.2.2.2 | exact hf0.2.2.2.2.2.2 | exact hf0.2.2.2.2.2.2.2 | exact hf0.2.2.2.2.2.2.2.2 | exact hf0.2.2.2.2.2.2.2.2.2 | exact hf0.2.2.2.2.2.2.2.2.2.2 | exact hf0.2.2.2.2.2.2.2.2.2.2.2 | exact hf0.2.2.2.2.2.2.2.2.2.2.2.2 | exact hf0.2.2.2.2.2.2.2.2.2.2.2.2.2 | exact hf1 | exact hf1.1 | exact hf1.2.1 | exact hf1.2.2.1 | exact hf1.2.2.2.1 | exact hf1.2.2.2.2.1 | exact hf1.2.2.2.2.2.1 | exact hf1.2.2.2.2.2.2.1 | exact hf1.2.2.2.2.2.2.2.1 | exact hf1.2.2.2.2.2.2.2.2.1 | exact hf1.2.2.2.2.2.2.2.2.2.1 | exact hf1.2.2.2.2.2.2.2.2.2.2.1 | exact hf1.2.2.2.2.2.2.2.2.2.2.2.1 | exact hf1.2.2.2.2.2.2.2.2.2.2.2.2.1 | exact hf1.2.2.2.2.2.2.2.2.2.2.2.2.2.1 | exact hf1.2 | exact hf1.2.2 | exact hf1.2.2.2 | exact hf1.2.2.2.2 | exact hf1.2.2.2.2.2 | exact hf1.2.2.2.2.2.2 | exact hf1.2.2.2.2.2.2.2 | exact hf1.2.2.2.2.2.2.2.2 | exact hf1.2.2.2.2.2.2.2.2.2 | exact hf1.2.2.2.2.2.2.2.2.2.2 | exact hf1.2.2.2.2.2.2.2.2.2.2.2 | exact hf1.2.2.2.2.2.2.2.2.2.2.2.2 | exact hf1.2.2.2.2.2.2.2.2.2.2.2.2.2)
            case hs1 =>
              repeat' (first
                | exact FSteps.nil
                | refine FSteps.cons ?_ ?_
                | (refine FStep.off_ _ _ _ rfl rfl ?_ (fun _ => rfl) ?_; (focus (intro u w hd; simp [vOf, is, Region.binds] at hd; simp [hd])); (intro w'; exact rfl); done)
                | ((first
                    | refine FStep.plain rfl ?_
                    | (refine FStep.on_ _ _ _ rfl rfl ?_ ?_; (focus (intro u w hd; simp [vOf, is, Region.binds] at hd; simp [hd]))))
                   intro u w hW hC hd K hK
                   (try simp [vOf, is, Region.binds] at hd)
                   simp only [upd, Nat.reduceEqDiff, if_true, if_false] at hK
                   (try simp only [hd] at hK)
                   go_simp
                   (first
                     | (refine hK _ _ ?_ ?_; (first | exact rfl); (repeat (first | exact Ext.refl _ | assumption | apply Ext.alloc | apply Ext.drew | apply Ext.drewN | (refine Ext.trans ?_ (by assumption)))))
                     | (go_at_call 49; refine (turn_any _ _ _ _ _ _ _).mono ?_; rintro e w1 ⟨rfl, hb⟩; (try go_simp); refine hK _ _ ?_ ?_; (first | exact rfl); (repeat (first | exact Ext.refl _ | assumption | apply Ext.alloc | apply Ext.drew | apply Ext.drewN | (refine Ext.trans ?_ (by assumption))))))))
            case hV1 => (simp only [List.forall_mem_cons]; simp [stable_is])
            case fin1 =>
              intro u w2 hW2 hC2 hd
              simp only [AllV, is] at hd
              simp only [hd]
              clear hd
              clear hC2 fb fq
              go_wp2
              go_roundw
              case rel => exact ⟨k + 1, by omega, by go_num, by first | (rw [HC.out]; done) | (rw [HC.out]; rfl), by (repeat (first | exact Ext.refl _ | assumption | apply Ext.alloc | apply Ext.drew | apply Ext.drewN | (refine Ext.trans ?_ (by assumption)))), fun j hj => by by_cases e : j = k; (subst e; exact HO.out); exact HN.out j (by omega)⟩
              case measure => simp [intOf]; omega
          · have e4 : decide (gy l k < gy l ((k + 1) % l.length)) = true := by simp at e1 e2 ⊢; omega
            cases e3 : decide (0 < turnW (gx l k) (gy l k) (gx l ((k + 1) % l.length)) (gy l ((k + 1) % l.length)) px py)
            · have HC := hide (show parTo (crI l px py) (k + 1) = parTo (crI l px py) k by rw [parTo_succ]; unfold crI turnE; rw [e1, e2, e3, e4]; rfl)
              refine wp_flow (by kernel_rfl) (by kernel_rfl) (fun u => ⟨#[_, _, _, _, _, _, _, _, _, _, _, _, _, _, _, _, _, _, _, _, _, _, _, _, _, _, _, _, u 0, u 1, u 2, u 3, u 4, u 5, u 6, u 7, u 8, u 9, u 10, u 11, u 12, u 13, u 14, u 15, u 16, u 17, u 18, u 19, u 20, u 21, u 22, u 23, _, _, _, _], _⟩) (fun i => List.getD [_, _, _, _, _, _, _, _, _, _, _, _, _, _, _, _, _, _, _, _, _, _, _, _] i undef) [is ?v2_0, is ?v2_1, is ?v2_2, is ?v2_3, is ?v2_4, is ?v2_5, is ?v2_6, is ?v2_7, is ?v2_8, is ?v2_9, is ?v2_10, is ?v2_11, is ?v2_12, is ?v2_13, is ?v2_14, is ?v2_15, is ?v2_16, is ?v2_17, is ?v2_18, is ?v2_19, is ?v2_20, is ?v2_21, is ?v2_22, is ?v2_23] (fun w' => w'.cell? ⟨w.heap.size, 0, none⟩ = some (.int .i64 px) ∧ w'.cell? ⟨w.heap.size, 1, none⟩ = some (.int .i64 py) ∧ w.heap.size < w'.heap.size ∧ w'.cell? ⟨wq.heap.size, 0, none⟩ = some (.int .i64 (gx l k)) ∧ w'.cell? ⟨wq.heap.size, 1, none⟩ = some (.int .i64 (gy l k)) ∧ wq.heap.size < w'.heap.size ∧ w'.cell? ⟨wq.heap.size + 1, 0, none⟩ = some (.int .i64 (gx l ((k + 1) % l.length))) ∧ w'.cell? ⟨wq.heap.size + 1, 1, none⟩ = some (.int .i64 (gy l ((k + 1) % l.length))) ∧ wq.heap.size + 1 < w'.heap.size) _ rfl ?hC2 ?hs2 ?hV2 ?fin2
              case hC2 => exact fun w' hx => (by have hq : Ext _ w' := hx; have hf0 := HB.out w' (by (repeat (first | exact Ext.refl _ | assumption | apply Ext.alloc | apply Ext.drew | apply Ext.drewN | (refine Ext.trans ?_ (by assumption))))); have hf1 := HQ.out w' (by (repeat (first | exact Ext.refl _ | assumption | apply Ext.alloc | apply Ext.drew | apply Ext.drewN | (refine Ext.trans ?_ (by assumption))))); and_intros <;> first | exact hf0 | exact hf0.1 | exact hf0.2.1 | exact hf0.2.2.1 | exact hf0.2.2.2.1 | exact hf0.2.2.2.2.1 | exact hf0.2.2.2.2.2.1 | exact hf0.2.2.2.2.2.2.1 | exact hf0.2.2.2.2.2.2.2.1 | exact hf0.2.2.2.2.2.2.2.2.1 | exact hf0.2.2.2.2.2.2.2.2.2.1 | exact hf0.2.2.2.2.2.2.2.2.2.2.1 | exact hf0.2.2.2.2.2.2.2.2.2.2.2.1 | exact hf0.2.2.2.2.2.2.2.2.2.2.2.2.1 | exact hf0.2.2.2.2.2.2.2.2.2.2.2.2.2.1 | exact hf0.2 | exact hf0.2.2 | exact hf0.2.2.2 | exact hf0.2.2.2.2 | exact hf0.2.2.2.2.2 | exact hf0.2.2.2.2.2.2 | exact hf0.2.2.2.2.2.2.2 | exact hf0.2.2.2.2.2.2.2.2 | exact hf0.2.2.2.2.2.2.2.2.2 | exact hf0.2.2.2.2.2.2.2.2.2.2 | exact hf0.2.2.2.2.2.2.2.2.2.2.2 | exact hf0.2.2.2.2.2.2.2.2.2.2.2.2 | exact hf0.2.2.2.2.2.2.2.2.2.2.2.2.2 | exact hf1 | exact hf1.1 | exact hf1.2.1 | exact hf1.2.2.1 | exact hf1.2.2.2.1 | exact hf1.2.2.2.2.1 | exact hf1.2.2.2.2.2.1 | exact hf1.2.2.2.2.2.2.1 | exact hf1.2.2.2.2.2.2.2.1 | exact hf1.2.2.2.2.2.2.2.2.1 | exact hf1.2.2.2.2.2.2.2.2.2.1 | exact hf1.2.2.2.2.2.2.2.2.2.2.1 | exact hf1.2.2.2.2.2.2.2.2.2.2.2.1 | exact hf1.2.2.2.2.2.2.2.2.2.2.2.2.1 | exact hf1.2.2.2.2.2.2.2.2.2.2.2.2.2.1 | exact hf1.2 | exact hf1.2.2 | exact hf1.2.2.2 | exact hf1.2.2.2.2 | exact hf1.2.2.2.2.2 | exact hf1.2.2.2.2.2.2 | exact hf1.2.2.2.2.2.2.2 | exact hf1.2.2.2.2.2.2.2.2 | exact hf1.2.2.2.2.2.2.2.2.2 | exact hf1.2.2.2.2.2.2.2.2.2.2 | exact hf1.2.2.2.2.2.2.2.2.2.2.2 | exact hf1.2.2.2.2.2.2.2.2.2.2.2.2 | exact hf1.2.2.2.2.2.2.2.2.2.2.2.2.2)
              case hs2 =>
                repeat' (first
                  | exact FSteps.nil
                  | refine FSteps.cons ?_ ?_
                  | (refine FStep.off_ _ _ _ rfl rfl ?_ (fun _ => rfl) ?_; (focus (intro u w hd; simp [vOf, is, Region.binds] at hd; simp [hd])); (intro w'; exact rfl); done)
                  | ((first
                      | refine FStep.plain rfl ?_
                      | (refine FStep.on_ _ _ _ rfl rfl ?_ ?_; (focus (intro u w hd; simp [vOf, is, Region.binds] at hd; simp [hd]))))
                     intro u w hW hC hd K hK
                     (try simp [vOf, is, Region.binds] at hd)
                     simp only [upd, Nat.reduceEqDiff, if_true, if_false] at hK
                     (try simp only [hd] at hK)
                     go_simp
                     (first
                       | (refine hK _ _ ?_ ?_; (first | exact rfl); (repeat (first | exact Ext.refl _ | assumption | apply Ext.alloc | apply Ext.drew | apply Ext.drewN | (refine Ext.trans ?_ (by assumption)))))
                       | (go_at_call 49; refine (turn_any _ _ _ _ _ _ _).mono ?_; rintro e w1 ⟨rfl, hb⟩; (try go_simp); refine hK _ _ ?_ ?_; (first | exact rfl); (repeat (first | exact Ext.refl _ | assumption | apply Ext.alloc | apply Ext.drew | apply Ext.drewN | (refine Ext.trans ?_ (by assumption))))))))
              case hV2 => (simp only [List.forall_mem_cons]; simp [stable_is])
              case fin2 =>
                intro u w2 hW2 hC2 hd
                simp only [AllV, is] at hd
                simp only [hd]
                clear hd
                clear hC2 fb fq
                go_wp2
                go_roundw
                case rel => exact ⟨k + 1, by omega, by go_num, by first | (rw [HC.out]; done) | (rw [HC.out]; rfl), by (repeat (first | exact Ext.refl _ | assumption | apply Ext.alloc | apply Ext.drew | apply Ext.drewN | (refine Ext.trans ?_ (by assumption)))), fun j hj => by by_cases e : j = k; (subst e; exact HO.out); exact HN.out j (by omega)⟩
                case measure => simp [intOf]; omega
            · have HC := hide (show parTo (crI l px py) (k + 1) = !parTo (crI l px py) k by rw [parTo_succ]; unfold crI turnE; rw [e1, e2, e3, e4]; rfl)
              refine wp_flow (by kernel_rfl) (by kernel_rfl) (fun u => ⟨#[_, _, _, _, _, _, _, _, _, _, _, _, _, _, _, _, _, _, _, _, _, _, _, _, _, _, _, _, u 0, u 1, u 2, u 3, u 4, u 5, u 6, u 7, u 8, u 9, u 10, u 11, u 12, u 13, u 14, u 15, u 16, u 17, u 18, u 19, u 20, u 21, u 22, u 23, _, _, _, _], _⟩) (fun i => List.getD [_, _, _, _, _, _, _, _, _, _, _, _, _, _, _, _, _, _, _, _, _, _, _, _] i undef) [is ?v3_0, is ?v3_1, is ?v3_2, is ?v3_3, is ?v3_4, is ?v3_5, is ?v3_6, is ?v3_7, is ?v3_8, is ?v3_9, is ?v3_10, is ?v3_11, is ?v3_12, is ?v3_13, is ?v3_14, is ?v3_15, is ?v3_16, is ?v3_17, is ?v3_18, is ?v3_19, is ?v3_20, is ?v3_21, is ?v3_22, is ?v3_23] (fun w' => w'.cell? ⟨w.heap.size, 0, none⟩ = some (.int .i64 px) ∧ w'.cell? ⟨w.heap.size, 1, none⟩ = some (.int .i64 py) ∧ w.heap.size < w'.heap.size ∧ w'.cell? ⟨wq.heap.size, 0, none⟩ = some (.int .i64 (gx l k)) ∧ w'.cell? ⟨wq.heap.size, 1, none⟩ = some (.int .i64 (gy l k)) ∧ wq.heap.size < w'.heap.size ∧ w'.cell? ⟨wq.heap.size + 1, 0, none⟩ = some (.int .i64 (gx l ((k + 1) % l.length))) ∧ w'.cell? ⟨wq.heap.size + 1, 1, none⟩ = some (.int .i64 (gy l ((k + 1) % l.length))) ∧ wq.heap.size + 1 < w'.heap.size) _ rfl ?hC3 ?hs3 ?hV3 ?fin3
              case hC3 => exact fun w' hx => (by have hq : Ext _ w' := hx; have hf0 := HB.out w' (by (repeat (first | exact Ext.refl _ | assumption | apply Ext.alloc | apply Ext.drew | apply Ext.drewN | (refine Ext.trans ?_ (by assumption))))); have hf1 := HQ.out w' (by (repeat (first | exact Ext.refl _ | assumption | apply Ext.alloc | apply Ext.drew | apply Ext.drewN | (refine Ext.trans ?_ (by assumption))))); and_intros <;> first | exact hf0 | exact hf0.1 | exact hf0.2.1 | exact hf0.2.2.1 | exact hf0.2.2.2.1 | exact hf0.2.2.2.2.1 | exact hf0.2.2.2.2.2.1 | exact hf0.2.2.2.2.2.2.1 | exact hf0.2.2.2.2.2.2.2.1 | exact hf0.2.2.2.2.2.2.2.2.1 | exact hf0.2.2.2.2.2.2.2.2.2.1 | exact hf0.2.2.2.2.2.2.2.2.2.2.1 | exact hf0.2.2.2.2.2.2.2.2.2.2.2.1 | exact hf0.2.2.2.2.2.2.2.2.2.2.2.2.1 | exact hf0.2.2.2.2.2.2.2.2.2.2.2.2.2.1 | exact hf0.2 | exact hf0.2.2 | exact hf0.2.2.2 | exact hf0.2.2.2.2 | exact hf0.2.2.2.2.2 | exact hf0.2.2.2.2.2.2 | exact hf0.2.2.2.2.2.2.2 | exact hf0.2.2.2.2.2.2.2.2 | exact hf0.2.2.2.2.2.2.2.2.2 | exact hf0.2.2.2.2.2.2.2.2.2.2 | exact hf0.2.2.2.2.2.2.2.2.2.2.2 | exact hf0.2.2.2.2.2.2.2.2.2.2.2.2 | exact hf0.2.2.2.2.2.2.2.2.2.2.2.2.2 | exact hf1 | exact hf1.1 | exact hf1.2.1 | exact hf1.2.2.1 | exact hf1.2.2.2.1 | exact hf1.2.2.2.2.1 | exact hf1.2.2.2.2.2.1 | exact hf1.2.2.2.2.2.2.1 | exact hf1.2.2.2.2.2.2.2.1 | exact hf1.2.2.2.2.2.2.2.2.1 | exact hf1.2.2.2.2.2.2.2.2.2.1 | exact hf1.2.2.2.2.2.2.2.2.2.2.1 | exact hf1.2.2.2.2.2.2.2.2.2.2.2.1 | exact hf1.2.2.2.2.2.2.2.2.2.2.2.2.1 | exact hf1.2.2.2.2.2.2.2.2.2.2.2.2.2.1 | exact hf1.2 | exact hf1.2.2 | exact hf1.2.2.2 | exact hf1.2.2.2.2 | exact hf1.2.2.2.2.2 | exact hf1.2.2.2.2.2.2 | exact hf1.2.2.2.2.2.2.2 | exact hf1.2.2.2.2.2.2.2.2 | exact hf1.2.2.2.2.2.2.2.2.2 | exact hf1.2.2.2.2.2.2.2.2.2.2 | exact hf1.2.2.2.2.2.2.2.2.2.2.2 | exact hf1.2.2.2.2.2.2.2.2.2.2.2.2 | exact hf1.2.2.2.2.2.2.2.2.2.2.2.2.2)
              case hs3 =>
                repeat' (first
                  | exact FSteps.nil
                  | refine FSteps.cons ?_ ?_
                  | (refine FStep.off_ _ _ _ rfl rfl ?_ (fun _ => rfl) ?_; (focus (intro u w hd; simp [vOf, is, Region.binds] at hd; simp [hd])); (intro w'; exact rfl); done)
                  | ((first
                      | refine FStep.plain rfl ?_
                      | (refine FStep.on_ _ _ _ rfl rfl ?_ ?_; (focus (intro u w hd; simp [vOf, is, Region.binds] at hd; simp [hd]))))
                     intro u w hW hC hd K hK
                     (try simp [vOf, is, Region.binds] at hd)
                     simp only [upd, Nat.reduceEqDiff, if_true, if_false] at hK
                     (try simp only [hd] at hK)
                     go_simp
                     (first
                       | (refine hK _ _ ?_ ?_; (first | exact rfl); (repeat (first | exact Ext.refl _ | assumption | apply Ext.alloc | apply Ext.drew | apply Ext.drewN | (refine Ext.trans ?_ (by assumption)))))
                       | (go_at_call 49; refine (turn_any _ _ _ _ _ _ _).mono ?_; rintro e w1 ⟨rfl, hb⟩; (try go_simp); refine hK _ _ ?_ ?_; (first | exact rfl); (repeat (first | exact Ext.refl _ | assumption | apply Ext.alloc | apply Ext.drew | apply Ext.drewN | (refine Ext.trans ?_ (by assumption))))))))
              case hV3 => (simp only [List.forall_mem_cons]; simp [stable_is])
              case fin3 =>
                intro u w2 hW2 hC2 hd
                simp only [AllV, is] at hd
                simp only [hd]
                clear hd
                clear hC2 fb fq
                go_wp2
                go_roundw
                case rel => exact ⟨k + 1, by omega, by go_num, by first | (rw [HC.out]; done) | (rw [HC.out]; rfl), by (repeat (first | exact Ext.refl _ | assumption | apply Ext.alloc | apply Ext.drew | apply Ext.drewN | (refine Ext.trans ?_ (by assumption)))), fun j hj => by by_cases e : j = k; (subst e; exact HO.out); exact HN.out j (by omega)⟩
                case measure => simp [intOf]; omega
        · cases e2 : decide (py < gy l ((k + 1) % l.length))
          · have e4 : decide (gy l k < gy l ((k + 1) % l.length)) = false := by simp at e1 e2 ⊢; omega
            cases e3 : decide (0 < turnW (gx l k) (gy l k) (gx l ((k + 1) % l.length)) (gy l ((k + 1) % l.length)) px py)
            · have HC := hide (show parTo (crI l px py) (k + 1) = !parTo (crI l px py) k by rw [parTo_succ]; unfold crI turnE; rw [e1, e2, e3, e4]; rfl)
              refine wp_flow (by kernel_rfl) (by kernel_rfl) (fun u => ⟨#[_, _, _, _, _, _, _, _, _, _, _, _, _, _, _, _, _, _, _, _, _, _, _, _, _, _, _, _, u 0, u 1, u 2, u 3, u 4, u 5, u 6, u 7, u 8, u 9, u 10, u 11, u 12, u 13, u 14, u 15, u 16, u 17, u 18, u 19, u 20, u 21, u 22, u 23, _, _, _, _], _⟩) (fun i => List.getD [_, _, _, _, _, _, _, _, _, _, _, _, _, _, _, _, _, _, _, _, _, _, _, _] i undef) [is ?v4_0, is ?v4_1, is ?v4_2, is ?v4_3, is ?v4_4, is ?v4_5, is ?v4_6, is ?v4_7, is ?v4_8, is ?v4_9, is ?v4_10, is ?v4_11, is ?v4_12, is ?v4_13, is ?v4_14, is ?v4_15, is ?v4_16, is ?v4_17, is ?v4_18, is ?v4_19, is ?v4_20, is ?v4_21, is ?v4_22, is ?v4_23] (fun w' => w'.cell? ⟨w.heap.size, 0, none⟩ = some (.int .i64 px) ∧ w'.cell? ⟨w.heap.size, 1, none⟩ = some (.int .i64 py) ∧ w.heap.size < w'.heap.size ∧ w'.cell? ⟨wq.heap.size, 0, none⟩ = some (.int .i64 (gx l k)) ∧ w'.cell? ⟨wq.heap.size, 1, none⟩ = some (.int .i64 (gy l k)) ∧ wq.heap.size < w'.heap.size ∧ w'.cell? ⟨wq.heap.size + 1, 0, none⟩ = some (.int .i64 (gx l ((k + 1) % l.length))) ∧ w'.cell? ⟨wq.heap.size + 1, 1, none⟩ = some (.int .i64 (gy l ((k + 1) % l.length))) ∧ wq.heap.size + 1 < w'.heap.size) _ rfl ?hC4 ?hs4 ?hV4 ?fin4
              case hC4 => exact fun w' hx => (by have hq : Ext _ w' := hx; have hf0 := HB.out w' (by (repeat (first | exact Ext.refl _ | assumption | apply Ext.alloc | apply Ext.drew | apply Ext.drewN | (refine Ext.trans ?_ (by assumption))))); have hf1 := HQ.out w' (by (repeat (first | exact Ext.refl _ | assumption | apply Ext.alloc | apply Ext.drew | apply Ext.drewN | (refine Ext.trans ?_ (by assumption))))); and_intros <;> first | exact hf0 | exact hf0.1 | exact hf0.2.1 | exact hf0.2.2.1 | exact hf0.2.2.2.1 | exact hf0.2.2.2.2.1 | exact hf0.2.2.2.2.2.1 | exact hf0.2.2.2.2.2.2.1 | exact hf0.2.2.2.2.2.2.2.1 | exact hf0.2.2.2.2.2.2.2.2.1 | exact hf0.2.2.2.2.2.2.2.2.2.1 | exact hf0.2.2.2.2.2.2.2.2.2.2.1 | exact hf0.2.2.2.2.2.2.2.2.2.2.2.1 | exact hf0.2.2.2.2.2.2.2.2.2.2.2.2.1 | exact hf0.2.2.2.2.2.2.2.2.2.2.2.2.2.1 | exact hf0.2 | exact hf0.2.2 | exact hf0.2.2.2 | exact hf0.2.2.2.2 | exact hf0.2.2.2.2.2 | exact hf0.2.2.2.2.2.2 | exact hf0.2.2.2.2.2.2.2 | exact hf0.2.2.2.2.2.2.2.2 | exact hf0.2.2.2.2.2.2.2.2.2 | exact hf0.2.2.2.2.2.2.2.2.2.2 | exact hf0.2.2.2.2.2.2.2.2.2.2.2 | exact hf0.2.2.2.2.2.2.2.2.2.2.2.2 | exact hf0.2.2.2.2.2.2.2.2.2.2.2.2.2 | exact hf1 | exact hf1.1 | exact hf1.2.1 | exact hf1.2.2.1 | exact hf1.2.2.2.1 | exact hf1.2.2.2.2.1 | exact hf1.2.2.2.2.2.1 | exact hf1.2.2.2.2.2.2.1 | exact hf1.2.2.2.2.2.2.2.1 | exact hf1.2.2.2.2.2.2.2.2.1 | exact hf1.2.2.2.2.2.2.2.2.2.1 | exact hf1.2.2.2.2.2.2.2.2.2.2.1 | exact hf1.2.2.2.2.2.2.2.2.2.2.2.1 | exact hf1.2.2.2.2.2.2.2.2.2.2.2.2.1 | exact hf1.2.2.2.2.2.2.2.2.2.2.2.2.2.1 | exact hf1.2 | exact hf1.2.2 | exact hf1.2.2.2 | exact hf1.2.2.2.2 | exact hf1.2.2.2.2.2 | exact hf1.2.2.2.2.2.2 | exact hf1.2.2.2.2.2.2.2 | exact hf1.2.2.2.2.2.2.2.2 | exact hf1.2.2.2.2.2.2.2.2.2 | exact hf1.2.2.2.2.2.2.2.2.2.2 | exact hf1.2.2.2.2.2.2.2.2.2.2.2 | exact hf1.2.2.2.2.2.2.2.2.2.2.2.2 | exact hf1.2.2.2.2.2.2.2.2.2.2.2.2.2)
              case hs4 =>
                repeat' (first
                  | exact FSteps.nil
                  | refine FSteps.cons ?_ ?_
                  | (refine FStep.off_ _ _ _ rfl rfl ?_ (fun _ => rfl) ?_; (focus (intro u w hd; simp [vOf, is, Region.binds] at hd; simp [hd])); (intro w'; exact rfl); done)
                  | ((first
                      | refine FStep.plain rfl ?_
                      | (refine FStep.on_ _ _ _ rfl rfl ?_ ?_; (focus (intro u w hd; simp [vOf, is, Region.binds] at hd; simp [hd]))))
                     intro u w hW hC hd K hK
                     (try simp [vOf, is, Region.binds] at hd)
                     simp only [upd, Nat.reduceEqDiff, if_true, if_false] at hK
                     (try simp only [hd] at hK)
                     go_simp
                     (first
                       | (refine hK _ _ ?_ ?_; (first | exact rfl); (repeat (first | exact Ext.refl _ | assumption | apply Ext.alloc | apply Ext.drew | apply Ext.drewN | (refine Ext.trans ?_ (by assumption)))))
                       | (go_at_call 49; refine (turn_any _ _ _ _ _ _ _).mono ?_; rintro e w1 ⟨rfl, hb⟩; (try go_simp); refine hK _ _ ?_ ?_; (first | exact rfl); (repeat (first | exact Ext.refl _ | assumption | apply Ext.alloc | apply Ext.drew | apply Ext.drewN | (refine Ext.trans ?_ (by assumption))))))))
              case hV4 => (simp only [List.forall_mem_cons]; simp [stable_is])
              case fin4 =>
                intro u w2 hW2 hC2 hd
                simp only [AllV, is] at hd
                simp only [hd]
                clear hd
                clear hC2 fb fq
                go_wp2
                go_roundw
                case rel => exact ⟨k + 1, by omega, by go_num, by first | (rw [HC.out]; done) | (rw [HC.out]; rfl), by (repeat (first | exact Ext.refl _ | assumption | apply Ext.alloc | apply Ext.drew | apply Ext.drewN | (refine Ext.trans ?_ (by assumption)))), fun j hj => by by_cases e : j = k; (subst e; exact HO.out); exact HN.out j (by omega)⟩
                case measure => simp [intOf]; omega
            · have HC := hide (show parTo (crI l px py) (k + 1) = parTo (crI l px py) k by rw [parTo_succ]; unfold crI turnE; rw [e1, e2, e3, e4]; rfl)
              refine wp_flow (by kernel_rfl) (by kernel_rfl) (fun u => ⟨#[_, _, _, _, _, _, _, _, _, _, _, _, _, _, _, _, _, _, _, _, _, _, _, _, _, _, _, _, u 0, u 1, u 2, u 3, u 4, u 5, u 6, u 7, u 8, u 9, u 10, u 11, u 12, u 13, u 14, u 15, u 16, u 17, u 18, u 19, u 20, u 21, u 22, u 23, _, _, _, _], _⟩) (fun i => List.getD [_, _, _, _, _, _, _, _, _, _, _, _, _, _, _, _, _, _, _, _, _, _, _, _] i undef) [is ?v5_0, is ?v5_1, is ?v5_2, is ?v5_3, is ?v5_4, is ?v5_5, is ?v5_6, is ?v5_7, is ?v5_8, is ?v5_9, is ?v5_10, is ?v5_11, is ?v5_12, is ?v5_13, is ?v5_14, is ?v5_15, is ?v5_16, is ?v5_17, is ?v5_18, is ?v5_19, is ?v5_20, is ?v5_21, is ?v5_22, is ?v5_23] (fun w' => w'.cell? ⟨w.heap.size, 0, none⟩ = some (.int .i64 px) ∧ w'.cell? ⟨w.heap.size, 1, none⟩ = some (.int .i64 py) ∧ w.heap.size < w'.heap.size ∧ w'.cell? ⟨wq.heap.size, 0, none⟩ = some (.int .i64 (gx l k)) ∧ w'.cell? ⟨wq.heap.size, 1, none⟩ = some (.int .i64 (gy l k)) ∧ wq.heap.size < w'.heap.size ∧ w'.cell? ⟨wq.heap.size + 1, 0, none⟩ = some (.int .i64 (gx l ((k + 1) % l.length))) ∧ w'.cell? ⟨wq.heap.size + 1, 1, none⟩ = some (.int .i64 (gy l ((k + 1) % l.length))) ∧ wq.heap.size + 1 < w'.heap.size) _ rfl ?hC5 ?hs5 ?hV5 ?fin5
              case hC5 => exact fun w' hx => (by have hq : Ext _ w' := hx; have hf0 := HB.out w' (by (repeat (first | exact Ext.refl _ | assumption | apply Ext.alloc | apply Ext.drew | apply Ext.drewN | (refine Ext.trans ?_ (by assumption))))); have hf1 := HQ.out w' (by (repeat (first | exact Ext.refl _ | assumption | apply Ext.alloc | apply Ext.drew | apply Ext.drewN | (refine Ext.trans ?_ (by assumption))))); and_intros <;> first | exact hf0 | exact hf0.1 | exact hf0.2.1 | exact hf0.2.2.1 | exact hf0.2.2.2.1 | exact hf0.2.2.2.2.1 | exact hf0.2.2.2.2.2.1 | exact hf0.2.2.2.2.2.2.1 | exact hf0.2.2.2.2.2.2.2.1 | exact hf0.2.2.2.2.2.2.2.2.1 | exact hf0.2.2.2.2.2.2.2.2.2.1 | exact hf0.2.2.2.2.2.2.2.2.2.2.1 | exact hf0.2.2.2.2.2.2.2.2.2.2.2.1 | exact hf0.2.2.2.2.2.2.2.2.2.2.2.2.1 | exact hf0.2.2.2.2.2.2.2.2.2.2.2.2.2.1 | exact hf0.2 | exact hf0.2.2 | exact hf0.2.2.2 | exact hf0.2.2.2.2 | exact hf0.2.2.2.2.2 | exact hf0.2.2.2.2.2.2 | exact hf0.2.2.2.2.2.2.2 | exact hf0.2.2.2.2.2.2.2.2 | exact hf0.2.2.2.2.2.2.2.2.2 | exact hf0.2.2.2.2.2.2.2.2.2.2 | exact hf0.2.2.2.2.2.2.2.2.2.2.2 | exact hf0.2.2.2.2.2.2.2.2.2.2.2.2 | exact hf0.2.2.2.2.2.2.2.2.2.2.2.2.2 | exact hf1 | exact hf1.1 | exact hf1.2.1 | exact hf1.2.2.1 | exact hf1.2.2.2.1 | exact hf1.2.2.2.2.1 | exact hf1.2.2.2.2.2.1 | exact hf1.2.2.2.2.2.2.1 | exact hf1.2.2.2.2.2.2.2.1 | exact hf1.2.2.2.2.2.2.2.2.1 | exact hf1.2.2.2.2.2.2.2.2.2.1 | exact hf1.2.2.2.2.2.2.2.2.2.2.1 | exact hf1.2.2.2.2.2.2.2.2.2.2.2.1 | exact hf1.2.2.2.2.2.2.2.2.2.2.2.2.1 | exact hf1.2.2.2.2.2.2.2.2.2.2.2.2.2.1 | exact hf1.2 | exact hf1.2.2 | exact hf1.2.2.2 | exact hf1.2.2.2.2 | exact hf1.2.2.2.2.2 | exact hf1.2.2.2.2.2.2 | exact hf1.2.2.2.2.2.2.2 | exact hf1.2.2.2.2.2.2.2.2 | exact hf1.2.2.2.2.2.2.2.2.2 | exact hf1.2.2.2.2.2.2.2.2.2.2 | exact hf1.2.2.2.2.2.2.2.2.2.2.2 | exact hf1.2.2.2.2.2.2.2.2.2.2.2.2 | exact hf1.2.2.2.2.2.2.2.2.2.2.2.2.2)
              case hs5 =>
                repeat' (first
                  | exact FSteps.nil
                  | refine FSteps.cons ?_ ?_
                  | (refine FStep.off_ _ _ _ rfl rfl ?_ (fun _ => rfl) ?_; (focus (intro u w hd; simp [vOf, is, Region.binds] at hd; simp [hd])); (intro w'; exact rfl); done)
                  | ((first
                      | refine FStep.plain rfl ?_
                      | (refine FStep.on_ _ _ _ rfl rfl ?_ ?_; (focus (intro u w hd; simp [vOf, is, Region.binds] at hd; simp [hd]))))
                     intro u w hW hC hd K hK
                     (try simp [vOf, is, Region.binds] at hd)
                     simp only [upd, Nat.reduceEqDiff, if_true, if_false] at hK
                     (try simp only [hd] at hK)
                     go_simp
                     (first
                       | (refine hK _ _ ?_ ?_; (first | exact rfl); (repeat (first | exact Ext.refl _ | assumption | apply Ext.alloc | apply Ext.drew | apply Ext.drewN | (refine Ext.trans ?_ (by assumption)))))
                       | (go_at_call 49; refine (turn_any _ _ _ _ _ _ _).mono ?_; rintro e w1 ⟨rfl, hb⟩; (try go_simp); refine hK _ _ ?_ ?_; (first | exact rfl); (repeat (first | exact Ext.refl _ | assumption | apply Ext.alloc | apply Ext.drew | apply Ext.drewN | (refine Ext.trans ?_ (by assumption))))))))
              case hV5 => (simp only [List.forall_mem_cons]; simp [stable_is])
              case fin5 =>
                intro u w2 hW2 hC2 hd
                simp only [AllV, is] at hd
                simp only [hd]
                clear hd
                clear hC2 fb fq
                go_wp2
                go_roundw
                case rel => exact ⟨k + 1, by omega, by go_num, by first | (rw [HC.out]; done) | (rw [HC.out]; rfl), by (repeat (first | exact Ext.refl _ | assumption | apply Ext.alloc | apply Ext.drew | apply Ext.drewN | (refine Ext.trans ?_ (by assumption)))), fun j hj => by by_cases e : j = k; (subst e; exact HO.out); exact HN.out j (by omega)⟩
                case measure => simp [intOf]; omega
          · have HC := hide (show parTo (crI l px py) (k + 1) = parTo (crI l px py) k by rw [parTo_succ]; unfold crI ; rw [e1, e2]; rfl)
            refine wp_flow (by kernel_rfl) (by kernel_rfl) (fun u => ⟨#[_, _, _, _, _, _, _, _, _, _, _, _, _, _, _, _, _, _, _, _, _, _, _, _, _, _, _, _, u 0, u 1, u 2, u 3, u 4, u 5, u 6, u 7, u 8, u 9, u 10, u 11, u 12, u 13, u 14, u 15, u 16, u 17, u 18, u 19, u 20, u 21, u 22, u 23, _, _, _, _], _⟩) (fun i => List.getD [_, _, _, _, _, _, _, _, _, _, _, _, _, _, _, _, _, _, _, _, _, _, _, _] i undef) [is ?v6_0, is ?v6_1, is ?v6_2, is ?v6_3, is ?v6_4, is ?v6_5, is ?v6_6, is ?v6_7, is ?v6_8, is ?v6_9, is ?v6_10, is ?v6_11, is ?v6_12, is ?v6_13, is ?v6_14, is ?v6_15, is ?v6_16, is ?v6_17, is ?v6_18, is ?v6_19, is ?v6_20, is ?v6_21, is ?v6_22, is ?v6_23] (fun w' => w'.cell? ⟨w.heap.size, 0, none⟩ = some (.int .i64 px) ∧ w'.cell? ⟨w.heap.size, 1, none⟩ = some (.int .i64 py) ∧ w.heap.size < w'.heap.size ∧ w'.cell? ⟨wq.heap.size, 0, none⟩ = some (.int .i64 (gx l k)) ∧ w'.cell? ⟨wq.heap.size, 1, none⟩ = some (.int .i64 (gy l k)) ∧ wq.heap.size < w'.heap.size ∧ w'.cell? ⟨wq.heap.size + 1, 0, none⟩ = some (.int .i64 (gx l ((k + 1) % l.length))) ∧ w'.cell? ⟨wq.heap.size + 1, 1, none⟩ = some (.int .i64 (gy l ((k + 1) % l.length))) ∧ wq.heap.size + 1 < w'.heap.size) _ rfl ?hC6 ?hs6 ?hV6 ?fin6
            case hC6 => exact fun w' hx => (by have hq : Ext _ w' := hx; have hf0 := HB.out w' (by (repeat (first | exact Ext.refl _ | assumption | apply Ext.alloc | apply Ext.drew | apply Ext.drewN | (refine Ext.trans ?_ (by assumption))))); have hf1 := HQ.out w' (by (repeat (first | exact Ext.refl _ | assumption | apply Ext.alloc | apply Ext.drew | apply Ext.drewN | (refine Ext.trans ?_ (by assumption))))); and_intros <;> first | exact hf0 | exact hf0.1 | exact hf0.2.1 | exact hf0.2.2.1 | exact hf0.2.2.2.1 | exact hf0.2.2.2.2.1 | exact hf0.2.2.2.2.2.1 | exact hf0.2.2.2.2.2.2.1 | exact hf0.2.2.2.2.2.2.2.1 | exact hf0.2.2.2.2.2.2.2.2.1 | exact hf0.2.2.2.2.2.2.2.2.2.1 | exact hf0.2.2.2.2.2.2.2.2.2.2.1 | exact hf0.2.2.2.2.2.2.2.2.2.2.2.1 | exact hf0.2.2.2.2.2.2.2.2.2.2.2.2.1 | exact hf0.2.2.2.2.2.2.2.2.2.2.2.2.2.1 | exact hf0.2 | exact hf0.2.2 | exact hf0.2.2.2 | exact hf0.2.2.2.2 | exact hf0.2.2.2.2.2 | exact hf0.2.2.2.2.2.2 | exact hf0.2.2.2.2.2.2.2 | exact hf0.2.2.2.2.2.2.2.2 | exact hf0.2.2.2.2.2.2.2.2.2 | exact hf0.2.2.2.2.2.2.2.2.2.2 | exact hf0.2.2.2.2.2.2.2.2.2.2.2 | exact hf0.2.2.2.2.2.2.2.2.2.2.2.2 | exact hf0.2.2.2.2.2.2.2.2.2.2.2.2.2 | exact hf1 | exact hf1.1 | exact hf1.2.1 | exact hf1.2.2.1 | exact hf1.2.2.2.1 | exact hf1.2.2.2.2.1 | exact hf1.2.2.2.2.2.1 | exact hf1.2.2.2.2.2.2.1 | exact hf1.2.2.2.2.2.2.2.1 | exact hf1.2.2.2.2.2.2.2.2.1 | exact hf1.2.2.2.2.2.2.2.2.2.1 | exact hf1.2.2.2.2.2.2.2.2.2.2.1 | exact hf1.2.2.2.2.2.2.2.2.2.2.2.1 | exact hf1.2.2.2.2.2.2.2.2.2.2.2.2.1 | exact hf1.2.2.2.2.2.2.2.2.2.2.2.2.2.1 | exact hf1.2 | exact hf1.2.2 | exact hf1.2.2.2 | exact hf1.2.2.2.2 | exact hf1.2.2.2.2.2 | exact hf1.2.2.2.2.2.2 | exact hf1.2.2.2.2.2.2.2 | exact hf1.2.2.2.2.2.2.2.2 | exact hf1.2.2.2.2.2.2.2.2.2 | exact hf1.2.2.2.2.2.2.2.2.2.2 | exact hf1.2.2.2.2.2.2.2.2.2.2.2 | exact hf1.2.2.2.2.2.2.2.2.2.2.2.2 | exact hf1.2.2.2.2.2.2.2.2.2.2.2.2.2)
            case hs6 =>
              repeat' (first
                | exact FSteps.nil
                | refine FSteps.cons ?_ ?_
                | (refine FStep.off_ _ _ _ rfl rfl ?_ (fun _ => rfl) ?_; (focus (intro u w hd; simp [vOf, is, Region.binds] at hd; simp [hd])); (intro w'; exact rfl); done)
                | ((first
                    | refine FStep.plain rfl ?_
                    | (refine FStep.on_ _ _ _ rfl rfl ?_ ?_; (focus (intro u w hd; simp [vOf, is, Region.binds] at hd; simp [hd]))))
                   intro u w hW hC hd K hK
                   (try simp [vOf, is, Region.binds] at hd)
                   simp only [upd, Nat.reduceEqDiff, if_true, if_false] at hK
                   (try simp only [hd] at hK)
                   go_simp
                   (first
                     | (refine hK _ _ ?_ ?_; (first | exact rfl); (repeat (first | exact Ext.refl _ | assumption | apply Ext.alloc | apply Ext.drew | apply Ext.drewN | (refine Ext.trans ?_ (by assumption)))))
                     | (go_at_call 49; refine (turn_any _ _ _ _ _ _ _).mono ?_; rintro e w1 ⟨rfl, hb⟩; (try go_simp); refine hK _ _ ?_ ?_; (first | exact rfl); (repeat (first | exact Ext.refl _ | assumption | apply Ext.alloc | apply Ext.drew | apply Ext.drewN | (refine Ext.trans ?_ (by assumption))))))))
            case hV6 => (simp only [List.forall_mem_cons]; simp [stable_is])
            case fin6 =>
              intro u w2 hW2 hC2 hd
              simp only [AllV, is] at hd
              simp only [hd]
              clear hd
              clear hC2 fb fq
              go_wp2
              go_roundw
              case rel => exact ⟨k + 1, by omega, by go_num, by first | (rw [HC.out]; done) | (rw [HC.out]; rfl), by (repeat (first | exact Ext.refl _ | assumption | apply Ext.alloc | apply Ext.drew | apply Ext.drewN | (refine Ext.trans ?_ (by assumption)))), fun j hj => by by_cases e : j = k; (subst e; exact HO.out); exact HN.out j (by omega)⟩
              case measure => simp [intOf]; omega
      · have HO := hide (placeV_on hlt ho)
        unfold onE at ho
        go_wp2_with (go_at_call 41; refine (on_any _ _ _ _ _ _ _).mono ?_; rintro e w1 ⟨rfl, hb1⟩)
        go_ret
        exact ⟨ret_int (by rw [HO.out]), by (repeat (first | exact Ext.refl _ | assumption | apply Ext.alloc | apply Ext.drew | apply Ext.drewN | (refine Ext.trans ?_ (by assumption))))⟩
    · have e : k = l.length := by omega
      have E := hide e
      clear e
      have HV := hide (placeV_off (fun j hj => HN.out j (by omega)))
      cases hpar : parTo (crI l px py) k
      all_goals
        have HP := hide hpar
        go_wp2
        go_ret
        exact ⟨ret_int (by rw [HV.out, ← E.out, HP.out]; rfl), by (repeat (first | exact Ext.refl _ | assumption | apply Ext.alloc | apply Ext.drew | apply Ext.drewN | (refine Ext.trans ?_ (by assumption))))⟩

/-- PlaceIn, as both texts give it -/
def placeInV (l : List (Int × Int)) (px py : Int) : Int := if pok px py = true then (if roomB l = true then placeV l px py else 0) else 0

theorem place_fine {l : List (Int × Int)} {px py : Int} (hr : roomB l = true) (hq : pok px py = true) : placeV l px py = holdsV l px py + 1 :=
  place_holds (roomB_fine hr).1.small (within_more (within_of_pok hq) (by omega))
theorem holdsV_bd (l : List (Int × Int)) (px py : Int) : holdsV l px py = -1 ∨ holdsV l px py = 0 ∨ holdsV l px py = 1 := by
  unfold holdsV
  split
  · exact .inr (.inl rfl)
  · cases parTo (crS l px py) l.length
    · exact .inl rfl
    · exact .inr (.inr rfl)

set_option maxHeartbeats 800000 in
theorem PlaceIn_any (A : Option Addr) (l : List (Int × Int)) (c : Nat) (px py : Int) (w : World) (hp : RPts w A l) (hn : l.length ≤ 1048576) :
    Calls Try.prog 21 #[.agg #[.slice A l.length c], .agg #[.int .i64 px, .int .i64 py]] w fun e w' => e = .returned (.int .i64 (placeInV l px py)) ∧ Ext w w' := by
  have HB : Hid (∀ w', Ext ((w.alloc (.cells #[.slice A l.length c] 26)).alloc (.cells #[.int .i64 px, .int .i64 py] 38)) w' → w'.cell? ⟨w.heap.size, 0, none⟩ = some (.slice A l.length c) ∧ w.heap.size < w'.heap.size ∧ w'.cell? ⟨w.heap.size + 1, 0, none⟩ = some (.int .i64 px) ∧ w'.cell? ⟨w.heap.size + 1, 1, none⟩ = some (.int .i64 py) ∧ w.heap.size + 1 < w'.heap.size) := fun w' hx => by
    and_intros <;> (first | (have hz := hx.size; simp at hz; omega) | ((first | rw [hx.cells _ _ (by first | (simp; done) | (simp; omega))] | rw [hx.frozens _ _ (by first | (simp; done) | (simp; omega))]); (first | (simp [go_sem]; done) | (simp [go_sem, World.cell?_alloc_past]; done) | (simp [go_sem, World.frozen?]; done))))
  unfold placeInV
  cases hq : pok px py
  · go_enter Try.func21, Try.ntmps21
    go_wp2_with ((go_at_call 39; refine (pok_any _ _ _).mono ?_; rintro e w1 ⟨rfl, hb⟩; have hcc := HB.out w1 (by (repeat (first | exact Ext.refl _ | assumption | apply Ext.alloc | apply Ext.drew | apply Ext.drewN | (refine Ext.trans ?_ (by assumption)))))))
    go_ret
    exact ⟨rfl, by (repeat (first | exact Ext.refl _ | assumption | apply Ext.alloc | apply Ext.drew | apply Ext.drewN | (refine Ext.trans ?_ (by assumption))))⟩
  · cases hr : roomB l
    all_goals
      go_enter Try.func21, Try.ntmps21
      go_wp2_with (first | (go_at_call 39; refine (pok_any _ _ _).mono ?_; rintro e w1 ⟨rfl, hb⟩; have h1 := HB.out w1 (by (repeat (first | exact Ext.refl _ | assumption | apply Ext.alloc | apply Ext.drew | apply Ext.drewN | (refine Ext.trans ?_ (by assumption)))))) | (go_at_call 29; refine (RoomOk_any _ _ _ _ (hp.ext (by (repeat (first | exact Ext.refl _ | assumption | apply Ext.alloc | apply Ext.drew | apply Ext.drewN | (refine Ext.trans ?_ (by assumption)))))) hn).mono ?_; rintro e w2 ⟨rfl, hb2⟩; have h2 := HB.out w2 (by (repeat (first | exact Ext.refl _ | assumption | apply Ext.alloc | apply Ext.drew | apply Ext.drewN | (refine Ext.trans ?_ (by assumption)))))) | (go_at_call 40; refine (place_any _ _ _ _ _ _ (hp.ext (by (repeat (first | exact Ext.refl _ | assumption | apply Ext.alloc | apply Ext.drew | apply Ext.drewN | (refine Ext.trans ?_ (by assumption)))))) hn).mono ?_; rintro e w3 ⟨rfl, hb3⟩))
      go_ret
      exact ⟨rfl, by (repeat (first | exact Ext.refl _ | assumption | apply Ext.alloc | apply Ext.drew | apply Ext.drewN | (refine Ext.trans ?_ (by assumption))))⟩

/-- IsIn, as both texts give it -/
def isInV (l : List (Int × Int)) (px py : Int) : Bool := placeInV l px py != 0

set_option maxHeartbeats 800000 in
theorem IsIn_any (A : Option Addr) (l : List (Int × Int)) (c : Nat) (px py : Int) (w : World) (hp : RPts w A l) (hn : l.length ≤ 1048576) :
    Calls Try.prog 24 #[.agg #[.slice A l.length c], .agg #[.int .i64 px, .int .i64 py]] w fun e w' => e = .returned (.bool (isInV l px py)) ∧ Ext w w' := by
  unfold isInV
  go_enter Try.func24, Try.ntmps24
  go_wp2_with (go_at_call 21; refine (PlaceIn_any _ _ _ _ _ _ (hp.ext (by (repeat (first | exact Ext.refl _ | assumption | apply Ext.alloc | apply Ext.drew | apply Ext.drewN | (refine Ext.trans ?_ (by assumption)))))) hn).mono ?_; rintro e w1 ⟨rfl, hb⟩)
  go_ret
  exact ⟨rfl, by (repeat (first | exact Ext.refl _ | assumption | apply Ext.alloc | apply Ext.drew | apply Ext.drewN | (refine Ext.trans ?_ (by assumption))))⟩

end Go.Proofs.Ytanagdlikoinaaa

namespace Go.Proofs.Ytanagdlikoinaaa
open Go.RowKit

/-- one wall's cells -/
def wallA (l : List (Int × Int)) (k : Nat) : Array Value := #[.int .i64 (gx l k), .int .i64 (gy l k), .int .i64 (gx l (nx l k)), .int .i64 (gy l (nx l k))]
/-- WallOf, as both texts give it -/
def WallOfV (l : List (Int × Int)) (k : Int) : Value := .agg (if hasC l k = true then wallA l k.toNat else #[.int .i64 0, .int .i64 0, .int .i64 0, .int .i64 0])

end Go.Proofs.Ytanagdlikoinaaa

namespace Go.Proofs.Ytanagdlikoinaaa
open Go.RowKit

/-- the first wall of l from k on, of d, that p lies on -/
def firstOn (l : List (Int × Int)) (px py : Int) : Nat → Nat → Int
  | _, 0 => -1
  | k, d + 1 => if onE l px py k = true then (k : Int) else firstOn l px py (k + 1) d
/-- WallAt, as both texts give it -/
def wallAtV (l : List (Int × Int)) (px py : Int) : Int := if pok px py = true then (if roomB l = true then firstOn l px py 0 l.length else -1) else -1

theorem firstOn_at (l : List (Int × Int)) (px py : Int) : ∀ d k m, k ≤ m → m < k + d → (∀ j, k ≤ j → j < m → onE l px py j = false) → onE l px py m = true → firstOn l px py k d = (m : Int)
  | 0, k, m, h1, h2, _, _ => by omega
  | d + 1, k, m, h1, h2, h3, h4 => by
    unfold firstOn
    by_cases e : k = m
    · subst e; rw [if_pos h4]
    · rw [if_neg (by rw [h3 k (Nat.le_refl _) (by omega)]; decide)]
      exact firstOn_at l px py d (k + 1) m (by omega) (by omega) (fun j a b => h3 j (by omega) b) h4
theorem firstOn_no (l : List (Int × Int)) (px py : Int) : ∀ d k, (∀ j, k ≤ j → j < k + d → onE l px py j = false) → firstOn l px py k d = -1
  | 0, _, _ => rfl
  | d + 1, k, h => by
    unfold firstOn
    rw [if_neg (by rw [h k (Nat.le_refl _) (by omega)]; decide)]
    exact firstOn_no l px py d (k + 1) (fun j a b => h j (by omega) (by omega))

theorem wallAt_on {l : List (Int × Int)} {px py : Int} {m : Nat} (hr : roomB l = true) (hq : pok px py = true) (hm : m < l.length) (h : ∀ j, j < m → onE l px py j = false) (h4 : onE l px py m = true) : wallAtV l px py = m := by
  unfold wallAtV
  rw [if_pos hq, if_pos hr]
  exact firstOn_at l px py l.length 0 m (by omega) (by omega) (fun j _ b => h j b) h4
theorem wallAt_no {l : List (Int × Int)} {px py : Int} (hr : roomB l = true) (hq : pok px py = true) (h : ∀ j, j < l.length → onE l px py j = false) : wallAtV l px py = -1 := by
  unfold wallAtV
  rw [if_pos hq, if_pos hr]
  exact firstOn_no l px py l.length 0 (fun j _ b => h j (by omega))
theorem wallAt_not {l : List (Int × Int)} {px py : Int} (h : placeInV l px py ≠ 1) : wallAtV l px py = -1 := by
  unfold placeInV at h
  unfold wallAtV
  by_cases hq : pok px py = true
  · rw [if_pos hq] at h ⊢
    by_cases hr : roomB l = true
    · rw [if_pos hr] at h ⊢
      refine firstOn_no l px py l.length 0 (fun j _ b => ?_)
      cases ho : onE l px py j with
      | false => rfl
      | true => exact absurd (placeV_on (by omega) ho) h
    · rw [if_neg hr]
  · rw [if_neg hq]
theorem placeIn_one {l : List (Int × Int)} {px py : Int} (h : placeInV l px py = 1) : roomB l = true ∧ pok px py = true := by
  unfold placeInV at h
  by_cases hq : pok px py = true
  · rw [if_pos hq] at h
    by_cases hr : roomB l = true
    · exact ⟨hr, hq⟩
    · rw [if_neg hr] at h; cases h
  · rw [if_neg hq] at h; cases h

/-- the ends of a valid room's wall differ -/
theorem room_wok {l : List (Int × Int)} (hr : roomB l = true) {k : Nat} (hk : k < l.length) : wok (gx l k) (gy l k) (gx l (nx l k)) (gy l (nx l k)) = true := by
  have hf := (roomB_fine hr).1
  have h1 := hf.pok hk
  have h2 := hf.pok (nx_lt hk)
  have ht : ¬ tn l k = 0 := by
    intro h0
    have := roomB_row hk (rowI_turn h0)
    rw [hr] at this
    cases this
  unfold wok pok2 neB
  rw [h1, h2]
  simp only [Bool.and_self, Bool.true_and, Bool.not_eq_true', Bool.and_eq_false_iff, beq_eq_false_iff_ne]
  refine Classical.byContradiction fun hc => ht ?_
  have e1 : gx l (nx l k) = gx l k := by omega
  have e2 : gy l (nx l k) = gy l k := by omega
  unfold tn turnW
  rw [e1, e2, Int.sub_self, Int.sub_self]
  have z : wrap64 0 = 0 := w64 0 (by omega) (by omega)
  rw [z, Int.zero_mul, Int.zero_mul, z, Int.sub_self, z]

theorem onWall_room {l : List (Int × Int)} {px py : Int} (hr : roomB l = true) (hq : pok px py = true) {k : Nat} (hk : k < l.length) : onWallV (gx l k) (gy l k) (gx l (nx l k)) (gy l (nx l k)) px py = onE l px py k := by
  have hf := (roomB_fine hr).1
  unfold onWallV BetV pok3
  rw [room_wok hr hk, hq, hf.pok hk, hf.pok (nx_lt hk)]
  rfl

set_option maxRecDepth 100000 in
set_option maxHeartbeats 1600000 in
theorem WallAt_any (A : Option Addr) (l : List (Int × Int)) (c : Nat) (px py : Int) (w : World) (hp : RPts w A l) (hn : l.length ≤ 1048576) :
    Calls Try.prog 22 #[.agg #[.slice A l.length c], .agg #[.int .i64 px, .int .i64 py]] w fun e w' => e = .returned (.int .i64 (wallAtV l px py)) ∧ Ext w w' := by
  have HB : Hid (∀ w', Ext ((w.alloc (.cells #[.slice A l.length c] 26)).alloc (.cells #[.int .i64 px, .int .i64 py] 38)) w' → w'.cell? ⟨w.heap.size, 0, none⟩ = some (.slice A l.length c) ∧ w.heap.size < w'.heap.size ∧ w'.cell? ⟨w.heap.size + 1, 0, none⟩ = some (.int .i64 px) ∧ w'.cell? ⟨w.heap.size + 1, 1, none⟩ = some (.int .i64 py) ∧ w.heap.size + 1 < w'.heap.size) := fun w' hx => by
    and_intros <;> (first | (have hz := hx.size; simp at hz; omega) | ((first | rw [hx.cells _ _ (by first | (simp; done) | (simp; omega))] | rw [hx.frozens _ _ (by first | (simp; done) | (simp; omega))]); (first | (simp [go_sem]; done) | (simp [go_sem, World.cell?_alloc_past]; done) | (simp [go_sem, World.frozen?]; done))))
  by_cases h1 : placeInV l px py = 1
  · obtain ⟨hr, hq⟩ := placeIn_one h1
    have HON := hide (fun (m : Nat) (hm : m < l.length) (h : ∀ j, j < m → onE l px py j = false) (h4 : onE l px py m = true) => wallAt_on hr hq hm h h4)
    have HNO := hide (fun (h : ∀ j, j < l.length → onE l px py j = false) => wallAt_no hr hq h)
    clear hr hq
    go_enter Try.func22, Try.ntmps22
    go_wp2_with (first | (go_at_call 21; refine (PlaceIn_any _ _ _ _ _ _ (hp.ext (by (repeat (first | exact Ext.refl _ | assumption | apply Ext.alloc | apply Ext.drew | apply Ext.drewN | (refine Ext.trans ?_ (by assumption)))))) hn).mono ?_; rw [h1]; rintro e w1 ⟨rfl, hb⟩; have f1 := HB.out w1 (by (repeat (first | exact Ext.refl _ | assumption | apply Ext.alloc | apply Ext.drew | apply Ext.drewN | (refine Ext.trans ?_ (by assumption)))))) | (go_at_call 33; refine (wallsOf_any _ _ _ _ (hp.ext (by (repeat (first | exact Ext.refl _ | assumption | apply Ext.alloc | apply Ext.drew | apply Ext.drewN | (refine Ext.trans ?_ (by assumption)))))) hn).mono ?_; rintro e wa ⟨A', c', rfl, hrw, hx⟩))
    clear f1
    go_loopw [15] (fun i wr => ∃ k : Nat, k ≤ l.length ∧ i = .int .i64 k ∧ Ext wa wr ∧ Hid (∀ j, j < k → onE l px py j = false)) (fun i _ => l.length - (intOf i).toNat)
    case atStart => exact ⟨0, Nat.zero_le _, rfl, Ext.refl _, fun j hj => absurd hj (by omega)⟩
    case round =>
      obtain ⟨k, hk, rfl, hbl, HR⟩ := hrel
      obtain ⟨wq, rfl⟩ : ∃ wq : World, wq = wr := ⟨_, rfl⟩
      have fb := HB.out wq (by (repeat (first | exact Ext.refl _ | assumption | apply Ext.alloc | apply Ext.drew | apply Ext.drewN | (refine Ext.trans ?_ (by assumption)))))
      by_cases hlt : k < l.length
      · obtain ⟨g, rfl, hg, c1, c2, c3, c4⟩ := (hrw.ext hbl) k hlt
        cases ho : onE l px py k
        · have HO := hide ho
          unfold onE at ho
          change onW px py (gx l k) (gy l k) (gx l (nx l k)) (gy l (nx l k)) = false at ho
          go_wp2_with (go_at_call 41; refine (on_any _ _ _ _ _ _ _).mono ?_; rintro e w3 ⟨rfl, hb3⟩)
          go_roundw
          case rel => exact ⟨k + 1, by omega, by go_num, by (repeat (first | exact Ext.refl _ | assumption | apply Ext.alloc | apply Ext.drew | apply Ext.drewN | (refine Ext.trans ?_ (by assumption)))), fun j hj => by by_cases e : j = k; (subst e; exact HO.out); exact HR.out j (by omega)⟩
          case measure => simp [intOf]; omega
        · have HV := hide (HON.out k hlt HR.out ho)
          unfold onE at ho
          change onW px py (gx l k) (gy l k) (gx l (nx l k)) (gy l (nx l k)) = true at ho
          go_wp2_with (go_at_call 41; refine (on_any _ _ _ _ _ _ _).mono ?_; rintro e w3 ⟨rfl, hb3⟩)
          go_ret
          exact ⟨ret_int (by rw [HV.out]), by (repeat (first | exact Ext.refl _ | assumption | apply Ext.alloc | apply Ext.drew | apply Ext.drewN | (refine Ext.trans ?_ (by assumption))))⟩
      · have HV := hide (HNO.out (fun j hj => HR.out j (by omega)))
        go_wp2
        go_ret
        exact ⟨ret_int (by rw [HV.out]), by (repeat (first | exact Ext.refl _ | assumption | apply Ext.alloc | apply Ext.drew | apply Ext.drewN | (refine Ext.trans ?_ (by assumption))))⟩
  · have HV := hide (wallAt_not h1)
    have h2 : (placeInV l px py != 1) = true := by simp [h1]
    go_enter Try.func22, Try.ntmps22
    go_wp2_with (go_at_call 21; refine (PlaceIn_any _ _ _ _ _ _ (hp.ext (by (repeat (first | exact Ext.refl _ | assumption | apply Ext.alloc | apply Ext.drew | apply Ext.drewN | (refine Ext.trans ?_ (by assumption)))))) hn).mono ?_; rintro e w1 ⟨rfl, hb⟩)
    go_ret
    exact ⟨ret_int (by rw [HV.out]), by (repeat (first | exact Ext.refl _ | assumption | apply Ext.alloc | apply Ext.drew | apply Ext.drewN | (refine Ext.trans ?_ (by assumption))))⟩

end Go.Proofs.Ytanagdlikoinaaa

namespace Go.Proofs.Ytanagdlikoinaaa
open Go.RowKit

def neg : Int → Bool
  | .negSucc _ => true
  | .ofNat _ => false
theorem neg_iff (x : Int) : neg x = true ↔ x < 0 := by
  cases x with
  | ofNat n => simp [neg]
  | negSucc n => simp [neg]
/-- the turn at the corner behind i -/
def tz (l : List (Int × Int)) (i : Nat) : Int := turnZ (gx l i) (gy l i) (gx l (nx l i)) (gy l (nx l i)) (gx l ((i + 2) % l.length)) (gy l ((i + 2) % l.length))
def flg (a b : Int × Int) : List (Int × Int) → List ((Int × Int) × Bool)
  | [] => []
  | c :: r => (b, neg (turnZ a.1 a.2 b.1 b.2 c.1 c.2)) :: flg b c r
def flags : List (Int × Int) → List ((Int × Int) × Bool)
  | a :: b :: r => flg a b (r ++ [a, b])
  | _ => []
/-- q is lower than p, in three directions -/
def low0 (p q : Int × Int) : Bool := neg (q.2 - p.2) || (!neg (p.2 - q.2) && neg (q.1 - p.1))
def low1 (p q : Int × Int) : Bool := neg (q.1 - p.1) || (!neg (p.1 - q.1) && neg (p.2 - q.2))
def low2 (p q : Int × Int) : Bool := neg (p.2 - q.2) || (!neg (q.2 - p.2) && neg (p.1 - q.1))
def exts (l : List (Int × Int)) (p : Int × Int) : Bool := l.any (low0 p) && (l.any (low1 p) && l.any (low2 p))
def pass (l : List (Int × Int)) (a b : Int × Int) : List (Int × Int) → Nat → Nat
  | [], n => n
  | c :: r, n => cond (neg (turnZ a.1 a.2 b.1 b.2 c.1 c.2)) (cond (exts l b) (pass l b c r (n + 1)) 1000) (pass l b c r n)
def zero : Int → Bool
  | .ofNat 0 => true
  | _ => false
theorem zero_iff (x : Int) : zero x = true ↔ x = 0 := by
  cases x with
  | ofNat n =>
    cases n with
    | zero => exact ⟨fun _ => rfl, fun _ => rfl⟩
    | succ n => exact ⟨fun h => (by cases h), fun h => (by cases h)⟩
  | negSucc n => exact ⟨fun h => (by cases h), fun h => (by cases h)⟩
def rct (a : Int × Int) : List (Int × Int) → Bool
  | [] => true
  | b :: r => (zero (a.1 - b.1) || zero (a.2 - b.2)) && rct b r
/-- what is asked of a room's corners -/
def goodB : List (Int × Int) → Bool
  | a :: b :: r => Nat.ble (pass (a :: b :: r) a b (r ++ [a, b]) 0 + 3) (r.length + 2) && cond (rct a (b :: r ++ [a])) (Nat.beq (r.length + 2) (2 * pass (a :: b :: r) a b (r ++ [a, b]) 0 + 4)) true
  | _ => false
def crossZ (a b c d : Int × Int) : Bool := decide (sgn (turnZ c.1 c.2 d.1 d.2 a.1 a.2) * sgn (turnZ c.1 c.2 d.1 d.2 b.1 b.2) < 0) && decide (sgn (turnZ a.1 a.2 b.1 b.2 c.1 c.2) * sgn (turnZ a.1 a.2 b.1 b.2 d.1 d.2) < 0)
def onZB (p a b : Int × Int) : Bool := decide (turnZ a.1 a.2 b.1 b.2 p.1 p.2 = 0) && (inB p.1 (min a.1 b.1) (max a.1 b.1) && inB p.2 (min a.2 b.2) (max a.2 b.2))
def pt (l : List (Int × Int)) (i : Nat) : Int × Int := (gx l i, gy l i)
def meetZ (l : List (Int × Int)) (i k : Nat) : Bool := crossZ (pt l i) (pt l (nx l i)) (pt l k) (pt l (nx l k)) || (onZB (pt l i) (pt l k) (pt l (nx l k)) || (onZB (pt l (nx l i)) (pt l k) (pt l (nx l k)) || (onZB (pt l k) (pt l i) (pt l (nx l i)) || onZB (pt l (nx l k)) (pt l i) (pt l (nx l i)))))
/-- no room -/
def badB (l : List (Int × Int)) : Bool := (List.range l.length).any (fun i => decide (tz l i = 0) || (List.range l.length).any fun k => askI l i k && meetZ l i k) || decide (areaZ l ≤ 0)
/-- the test -/
def cornT (l : List (Int × Int)) : Bool := cond (goodB l) true (badB l)

theorem tn_tz {l : List (Int × Int)} (hf : Fine l) {i : Nat} (hi : i < l.length) : tn l i = tz l i := by
  have h0 : 0 < l.length := by omega
  have w : ∀ k, k < l.length → within 1000000 (gx l k) (gy l k) := fun k hk => within_more (within_of_pok (hf.pok hk)) (by omega)
  exact turnW_eq (w i hi) (w _ (nx_lt hi)) (w _ (Nat.mod_lt _ h0))
theorem bad_room {l : List (Int × Int)} (h : badB l = true) : roomB l = false := by
  rw [Bool.eq_false_iff]
  intro hr
  obtain ⟨h1, h2, h3, h4, h5⟩ := (roomB_iff l).1 hr
  have hf := (roomB_fine hr).1
  have w : ∀ k, k < l.length → within 1000000 (gx l k) (gy l k) := fun k hk => within_more (within_of_pok (hf.pok hk)) (by omega)
  unfold badB at h
  rw [Bool.or_eq_true, List.any_eq_true, decide_eq_true_eq] at h
  rcases h with ⟨i, hi, h⟩ | h
  · rw [List.mem_range] at hi
    rw [Bool.or_eq_true, decide_eq_true_eq, List.any_eq_true] at h
    rcases h with h | ⟨k, hk, h⟩
    · exact h3 i hi (by rw [tn_tz hf hi]; exact h)
    · rw [List.mem_range] at hk
      rw [Bool.and_eq_true] at h
      have hm := h4 i k hi hk (askS_of_askI hi hk h.1)
      have w1 := w i hi
      have w2 := w _ (nx_lt hi)
      have w3 := w k hk
      have w4 := w _ (nx_lt hk)
      have e : mt l i k = meetZ l i k := by
        unfold mt meetV meetZ crossB sideB crossZ onZB onW pt
        rw [room_wok hr hi, room_wok hr hk, turnW_eq w3 w4 w1, turnW_eq w3 w4 w2, turnW_eq w1 w2 w3, turnW_eq w1 w2 w4]
        rfl
      rw [e, h.2] at hm
      cases hm
  · omega

/-! ## What the test says -/
theorem flg_get : ∀ (r : List (Int × Int)) (a b : Int × Int) (i : Nat), i < r.length → (flg a b r)[i]? = some ((a :: b :: r).getD (i + 1) (0, 0), neg (turnZ (gx (a :: b :: r) i) (gy (a :: b :: r) i) (gx (a :: b :: r) (i + 1)) (gy (a :: b :: r) (i + 1)) (gx (a :: b :: r) (i + 2)) (gy (a :: b :: r) (i + 2))))
  | c :: r, a, b, 0, _ => rfl
  | c :: r, a, b, i + 1, h => by
    have := flg_get r b c i (by simpa using h)
    exact this
theorem flg_length : ∀ (r : List (Int × Int)) (a b : Int × Int), (flg a b r).length = r.length
  | [], _, _ => rfl
  | c :: r, a, b => by simp [flg, flg_length r b c]
theorem getD_twice (l : List (Int × Int)) (h2 : 2 ≤ l.length) {i : Nat} (hi : i < l.length + 2) : (l ++ l.take 2).getD i (0, 0) = l.getD (i % l.length) (0, 0) := by
  rw [List.getD_eq_getElem?_getD, List.getD_eq_getElem?_getD]
  rcases Nat.lt_or_ge i l.length with h | h
  · rw [List.getElem?_append_left h, Nat.mod_eq_of_lt h]
  · rw [List.getElem?_append_right h, List.getElem?_take, if_pos (by omega), Nat.mod_eq_sub_mod h, Nat.mod_eq_of_lt (by omega)]
theorem flags_get {l : List (Int × Int)} (h2 : 2 ≤ l.length) {i : Nat} (hi : i < l.length) : (flags l)[i]? = some (pt l (nx l i), neg (tz l i)) := by
  match l, h2 with
  | a :: b :: r, h2 =>
    have hx : a :: b :: (r ++ [a, b]) = (a :: b :: r) ++ (a :: b :: r).take 2 := rfl
    have h := flg_get (r ++ [a, b]) a b i (by simp at hi ⊢; omega)
    unfold flags
    rw [h]
    have g : ∀ k, k < (a :: b :: r).length + 2 → (a :: b :: (r ++ [a, b])).getD k (0, 0) = (a :: b :: r).getD (k % (a :: b :: r).length) (0, 0) := fun k hk => by rw [hx]; exact getD_twice _ h2 hk
    have e0 := g i (by omega)
    have e1 := g (i + 1) (by omega)
    have e2 := g (i + 2) (by omega)
    rw [Nat.mod_eq_of_lt hi] at e0
    unfold tz pt nx gx gy
    rw [e0, e1, e2]
theorem pass_sound (l : List (Int × Int)) : ∀ (r : List (Int × Int)) (a b : Int × Int) (n : Nat), pass l a b r n < 1000 → pass l a b r n = n + (flg a b r).countP (fun e => e.2) ∧ ∀ e, e ∈ flg a b r → e.2 = true → exts l e.1 = true
  | [], _, _, n, _ => ⟨rfl, fun e he => by cases he⟩
  | c :: r, a, b, n, h => by
    unfold pass at h ⊢
    unfold flg
    cases hn : neg (turnZ a.1 a.2 b.1 b.2 c.1 c.2)
    · rw [hn] at h
      obtain ⟨h1, h2⟩ := pass_sound l r b c n h
      refine ⟨by rw [List.countP_cons_of_neg (by simp)]; exact h1, fun e he hee => ?_⟩
      rcases List.mem_cons.1 he with rfl | he
      · cases hee
      · exact h2 e he hee
    · rw [hn] at h
      cases hx : exts l b
      · rw [hx] at h
        exact absurd h (by simp)
      · rw [hx] at h
        obtain ⟨h1, h2⟩ := pass_sound l r b c (n + 1) h
        refine ⟨by rw [List.countP_cons_of_pos (by simp)]; show pass l b c r (n + 1) = _; rw [h1]; omega, fun e he hee => ?_⟩
        rcases List.mem_cons.1 he with rfl | he
        · exact hx
        · exact h2 e he hee
theorem rct_get : ∀ (r : List (Int × Int)) (a : Int × Int), (∀ i, i < r.length → gx (a :: r) i = gx (a :: r) (i + 1) ∨ gy (a :: r) i = gy (a :: r) (i + 1)) → rct a r = true
  | [], _, _ => rfl
  | b :: r, a, h => by
    unfold rct
    rw [Bool.and_eq_true, Bool.or_eq_true, zero_iff, zero_iff]
    refine ⟨?_, rct_get r b fun i hi => h (i + 1) (by simpa using hi)⟩
    have h0 := h 0 (by simp)
    have h1 : a.1 = b.1 ∨ a.2 = b.2 := h0
    omega
/-- the walls run along the axes -/
def rectP (l : List (Int × Int)) : Prop := ∀ i, i < l.length → gx l i = gx l (nx l i) ∨ gy l i = gy l (nx l i)
/-- how many corners stick in -/
def rcount (l : List (Int × Int)) : Nat := (List.range l.length).countP fun i => neg (tz l i)
theorem flags_map {l : List (Int × Int)} (h2 : 2 ≤ l.length) : flags l = (List.range l.length).map fun i => (pt l (nx l i), neg (tz l i)) := by
  have hlen : (flags l).length = l.length := by
    match l, h2 with
    | a :: b :: r, _ => simp [flags, flg_length]
  apply List.ext_getElem?
  intro i
  by_cases hi : i < l.length
  · rw [flags_get h2 hi, List.getElem?_map, List.getElem?_range hi]
    rfl
  · rw [List.getElem?_eq_none (by omega), List.getElem?_eq_none (by simp; omega)]
theorem good_sound {l : List (Int × Int)} (h10 : l.length ≤ 10) (h : goodB l = true) : rcount l + 3 ≤ l.length ∧ (∀ i, i < l.length → tz l i < 0 → exts l (pt l (nx l i)) = true) ∧ (rectP l → l.length = 2 * rcount l + 4) := by
  match l, h10, h with
  | a :: b :: r, h10, h =>
    unfold goodB at h
    rw [Bool.and_eq_true, Nat.ble_eq] at h
    obtain ⟨h1, h3⟩ := h
    have hl : (a :: b :: r).length = r.length + 2 := rfl
    obtain ⟨h4, h5⟩ := pass_sound (a :: b :: r) (r ++ [a, b]) a b 0 (by omega)
    have hfl : flg a b (r ++ [a, b]) = flags (a :: b :: r) := rfl
    have hfm := flags_map (l := a :: b :: r) (by simp)
    rw [hfl, hfm] at h4 h5
    have hc : ((List.range (a :: b :: r).length).map fun i => (pt (a :: b :: r) (nx (a :: b :: r) i), neg (tz (a :: b :: r) i))).countP (fun e => e.2) = rcount (a :: b :: r) := by
      rw [List.countP_map]
      rfl
    rw [hc, Nat.zero_add] at h4
    rw [h4] at h1 h3
    refine ⟨by omega, fun i hi ht => ?_, fun hp => ?_⟩
    · have h6 := h5 (pt (a :: b :: r) (nx (a :: b :: r) i), neg (tz (a :: b :: r) i)) (List.mem_map.2 ⟨i, List.mem_range.2 hi, rfl⟩) ((neg_iff _).2 ht)
      exact h6
    · have hr : rct a (b :: r ++ [a]) = true := by
        refine rct_get _ a fun i hi => ?_
        have hx : a :: (b :: r ++ [a]) = ((a :: b :: r) ++ [a]) := rfl
        have g : ∀ k, k < (a :: b :: r).length + 1 → (a :: (b :: r ++ [a])).getD k (0, 0) = (a :: b :: r).getD (k % (a :: b :: r).length) (0, 0) := fun k hk => by
          rw [hx, List.getD_eq_getElem?_getD, List.getD_eq_getElem?_getD]
          rcases Nat.lt_or_ge k (a :: b :: r).length with h | h
          · rw [List.getElem?_append_left h, Nat.mod_eq_of_lt h]
          · have e : k = (a :: b :: r).length := by omega
            rw [e, List.getElem?_append_right (Nat.le_refl _), Nat.mod_self, Nat.sub_self]
            rfl
        have hi' : i < (a :: b :: r).length := by simpa using hi
        have h0 := hp i hi'
        have e0 := g i (by omega)
        have e1 := g (i + 1) (by omega)
        rw [Nat.mod_eq_of_lt hi'] at e0
        unfold gx gy at *
        rw [e0, e1]
        exact h0
      rw [hr] at h3
      have := Nat.eq_of_beq_eq_true h3
      omega

end Go.Proofs.Ytanagdlikoinaaa

namespace Go.Proofs.Ytanagdlikoinaaa
namespace Jor

theorem room_z {l : List (Int × Int)} (hr : roomB l = true) : (3 ≤ l.length ∧ l.length ≤ 10) ∧ (∀ i, i < l.length → tz l i ≠ 0) ∧ (∀ i k, i < l.length → k < l.length → askI l i k = true → meetZ l i k = false) ∧ 0 < areaZ l := by
  have h1 := ((roomB_iff l).1 hr).1
  have h2 : badB l = false := by
    cases hb : badB l
    · rfl
    · rw [bad_room hb] at hr
      cases hr
  unfold badB at h2
  rw [Bool.or_eq_false_iff, decide_eq_false_iff_not, List.any_eq_false] at h2
  obtain ⟨h2, h3⟩ := h2
  have h4 : ∀ i, i < l.length → tz l i ≠ 0 ∧ ∀ k, k < l.length → askI l i k = true → meetZ l i k = false := by
    intro i hi
    have h := h2 i (List.mem_range.2 hi)
    rw [Bool.not_eq_true, Bool.or_eq_false_iff, decide_eq_false_iff_not, List.any_eq_false] at h
    refine ⟨h.1, fun k hk ha => ?_⟩
    have q := h.2 k (List.mem_range.2 hk)
    rw [ha, Bool.true_and, Bool.not_eq_true] at q
    exact q
  exact ⟨h1, fun i hi => (h4 i hi).1, fun i k hi hk => (h4 i hi).2 k hk, by omega⟩

/-- walls that are no neighbours -/
def ApartZ (a b c d : P) : Prop := crossZ a b c d = false ∧ onZB a c d = false ∧ onZB b c d = false ∧ onZB c a b = false ∧ onZB d a b = false
theorem ApartZ.symm {a b c d : P} (h : ApartZ a b c d) : ApartZ c d a b := by
  obtain ⟨h1, h2, h3, h4, h5⟩ := h
  refine ⟨?_, h4, h5, h2, h3⟩
  unfold crossZ at *
  rw [Bool.and_comm]
  exact h1
theorem room_apart {l : List (Int × Int)} (hr : roomB l = true) {i k : Nat} (hi : i < l.length) (hk : k < l.length) (h1 : k ≠ i) (h2 : nx l.length i ≠ k) (h3 : nx l.length k ≠ i) : ApartZ (pt l i) (pt l (nx l.length i)) (pt l k) (pt l (nx l.length k)) := by
  have hz := (room_z hr).2.2.1
  have main : ∀ i k, i < l.length → k < l.length → i < k → nx l.length i ≠ k → nx l.length k ≠ i → ApartZ (pt l i) (pt l (nx l.length i)) (pt l k) (pt l (nx l.length k)) := by
    intro i k hi hk hik h2 h3
    have ha : askI l i k = true := by
      unfold askI
      rw [nx_val hi] at h2
      rw [Bool.and_eq_true, decide_eq_true_eq, Bool.not_eq_true', beq_eq_false_iff_ne]
      refine ⟨?_, h3⟩
      split at h2 <;> omega
    have hm := hz i k hi hk ha
    unfold meetZ at hm
    simp only [Bool.or_eq_false_iff] at hm
    exact hm
  rcases Nat.lt_or_gt_of_ne h1 with h | h
  · exact (main k i hk hi h h3 h2).symm
  · exact main i k hi hk h h2 h3

theorem between {d s u t : Int} (hd : 0 < d) (h0 : 0 ≤ s) (h1 : s ≤ d) (h : d * u = t * s) : min 0 t ≤ u ∧ u ≤ max 0 t := by
  rcases Int.le_total 0 t with ht | ht
  · have e1 := Int.mul_nonneg ht h0
    have e2 := Int.mul_le_mul_of_nonneg_left h1 ht
    rw [Int.mul_comm t d] at e2
    have k1 : 0 ≤ u := Int.le_of_mul_le_mul_left (a := d) (by rw [Int.mul_zero]; omega) hd
    have k2 : u ≤ t := Int.le_of_mul_le_mul_left (a := d) (by omega) hd
    omega
  · have e1 := Int.mul_nonneg (show 0 ≤ -t by omega) h0
    have e2 := Int.mul_le_mul_of_nonneg_left h1 (show 0 ≤ -t by omega)
    rw [Int.neg_mul] at e1
    rw [Int.neg_mul, Int.neg_mul, Int.mul_comm t d] at e2
    have k1 : u ≤ 0 := Int.le_of_mul_le_mul_left (a := d) (by rw [Int.mul_zero]; omega) hd
    have k2 : t ≤ u := Int.le_of_mul_le_mul_left (a := d) (by omega) hd
    omega
/-- near: less than M apart from left to right -/
def Nr (M : Int) (a p : P) : Prop := a.1 - p.1 < M ∧ p.1 - a.1 < M
theorem off_hm {M : Int} (hM : 0 < M) {a b p : P} (n1 : Nr M a p) (n2 : Nr M b p) (h : onZB p a b = false) : Off (hm M p) (hm M a) (hm M b) := by
  intro hh h0
  have ht : tu a b p = 0 := by
    have k1 := hm_neg hM a b p
    have k2 := hm_pos hM a b p
    omega
  rw [hm_lt n1.1 n1.2, hm_lt n2.2 n2.1, hm_lt n2.1 n2.2, hm_lt n1.2 n1.1] at hh
  have hon : onZB p a b = true := by
    unfold onZB inB
    have ht' : turnZ a.1 a.2 b.1 b.2 p.1 p.2 = 0 := ht
    rw [ht']
    simp only [decide_true, Bool.true_and, Bool.and_eq_true, decide_eq_true_eq]
    unfold tu at ht
    by_cases hy : a.2 = b.2
    · omega
    · rcases Int.lt_or_gt_of_ne hy with g | g
      · have := between (d := b.2 - a.2) (s := p.2 - a.2) (u := p.1 - a.1) (t := b.1 - a.1) (by omega) (by omega) (by omega) (by omega)
        omega
      · have := between (d := a.2 - b.2) (s := p.2 - b.2) (u := p.1 - b.1) (t := a.1 - b.1) (by omega) (by omega) (by omega) (by grind)
        omega
  rw [h] at hon
  cases hon

end Jor
end Go.Proofs.Ytanagdlikoinaaa

namespace Go.Proofs.Ytanagdlikoinaaa
namespace Jor

theorem tu_row (a b : P) (x y : Int) : tu a b (x, y) = (b.1 - a.1) * (y - a.2) + (b.2 - a.2) * a.1 - (b.2 - a.2) * x := by
  unfold tu
  grind
theorem tu_mirror (a b : P) (x y : Int) : tu a b (x, a.2 + b.2 - y) = - tu a b (a.1 + b.1 - x, y) := by
  unfold tu
  grind
/-- a row between the ends of a rising wall, and its mirror -/
theorem row_pair {a b : P} {y x0 : Int} {N : Nat} (hab : a.2 < b.2) (h1 : a.2 < y) (h2 : y < b.2) (ha : x0 ≤ a.1 ∧ a.1 < x0 + N) (hb : x0 ≤ b.1 ∧ b.1 < x0 + N) :
    sm (fun j => if 0 < tu a b (x0 + (j : Nat), y) then 1 else 0) N + sm (fun j => if 0 ≤ tu a b (x0 + (j : Nat), a.2 + b.2 - y) then 1 else 0) N = a.1 + b.1 + 1 - 2 * x0 := by
  obtain ⟨c, hc⟩ := cut (k := (b.1 - a.1) * (y - a.2) + (b.2 - a.2) * a.1) (d := b.2 - a.2) (by omega)
  have hc' : ∀ x, 0 < tu a b (x, y) ↔ x < c := fun x => by rw [tu_row]; exact hc x
  have e1 : sm (fun j => if 0 < tu a b (x0 + (j : Nat), y) then (1 : Int) else 0) N = sm (fun j => if x0 + (j : Nat) < c then 1 else 0) N := sm_congr _ _ N fun i _ => by simp only [hc']
  have e2 : sm (fun j => if 0 ≤ tu a b (x0 + (j : Nat), a.2 + b.2 - y) then (1 : Int) else 0) N = sm (fun j => if x0 + (j : Nat) < a.1 + b.1 - c + 1 then 1 else 0) N := sm_congr _ _ N fun i _ => by
    have h := hc' (a.1 + b.1 - (x0 + (i : Nat)))
    rw [tu_mirror]
    by_cases q : x0 + (i : Nat) < a.1 + b.1 - c + 1
    · rw [if_pos q, if_pos (by omega)]
    · rw [if_neg q, if_neg (by omega)]
  have m1 : ¬ 0 < tu a b (max a.1 b.1, y) := by
    unfold tu
    simp only
    rcases Int.le_total a.1 b.1 with g | g
    · rw [Int.max_eq_right g]
      have := Int.mul_nonneg (show 0 ≤ b.1 - a.1 by omega) (show 0 ≤ b.2 - y by omega)
      have e : (b.1 - a.1) * (y - a.2) - (b.2 - a.2) * (b.1 - a.1) = - ((b.1 - a.1) * (b.2 - y)) := by grind
      omega
    · rw [Int.max_eq_left g]
      have := Int.mul_nonneg (show 0 ≤ a.1 - b.1 by omega) (show 0 ≤ y - a.2 by omega)
      have e : (b.1 - a.1) * (y - a.2) - (b.2 - a.2) * (a.1 - a.1) = - ((a.1 - b.1) * (y - a.2)) := by grind
      omega
  have m2 : 0 < tu a b (min a.1 b.1 - 1, y) := by
    unfold tu
    simp only
    rcases Int.le_total a.1 b.1 with g | g
    · rw [Int.min_eq_left g]
      have := Int.mul_nonneg (show 0 ≤ b.1 - a.1 by omega) (show 0 ≤ y - a.2 by omega)
      have e : (b.1 - a.1) * (y - a.2) - (b.2 - a.2) * (a.1 - 1 - a.1) = (b.1 - a.1) * (y - a.2) + (b.2 - a.2) := by grind
      omega
    · rw [Int.min_eq_right g]
      have := Int.mul_nonneg (show 0 ≤ a.1 - b.1 by omega) (show 0 ≤ b.2 - y by omega)
      have e : (b.1 - a.1) * (y - a.2) - (b.2 - a.2) * (b.1 - 1 - a.1) = (a.1 - b.1) * (b.2 - y) + (b.2 - a.2) := by grind
      omega
  rw [hc'] at m1 m2
  rw [e1, e2, cnt_lt x0 c N (by omega) (by omega), cnt_lt x0 (a.1 + b.1 - c + 1) N (by omega) (by omega)]
  omega

theorem sm_rev (f : Nat → Int) : ∀ n, sm (fun i => f (n - 1 - i)) n = sm f n
  | 0 => rfl
  | n + 1 => by
    have h := sm_split (fun i => f (n + 1 - 1 - i)) 1 n
    rw [Nat.add_comm 1 n] at h
    rw [h, sm]
    have e : sm (fun i => f (n + 1 - 1 - (1 + i))) n = sm (fun i => f (n - 1 - i)) n := sm_congr _ _ n fun i _ => by
      show f (n + 1 - 1 - (1 + i)) = f (n - 1 - i)
      congr 1
      omega
    rw [e, sm_rev f n, sm, sm]
    simp only [Nat.add_sub_cancel, Nat.sub_zero]
    omega
theorem sm_const (c : Int) : ∀ n : Nat, sm (fun _ => c) n = n * c
  | 0 => by simp [sm]
  | n + 1 => by
    rw [sm, sm_const c n]
    grind

/-- what a wall counts at a place -/
def cc (M : Int) (a b : P) (p : P) : Int := cR (hm M p) (hm M a) (hm M b) + cL (hm M p) (hm M a) (hm M b)
/-- a row of the box -/
def row (M : Int) (a b : P) (x0 : Int) (N : Nat) (y : Int) : Int := sm (fun j => cc M a b (x0 + (j : Nat), y)) N
section
variable {M : Int} (hM : 0 < M) {a b p : P} (na : Nr M a p) (nb : Nr M b p) (hab : a.2 < b.2)
include hM na nb hab
omit hab in
theorem cc_mid (h1 : a.2 < p.2) (h2 : p.2 < b.2) : cc M a b p = (if 0 < tu a b p then 1 else 0) + (if 0 ≤ tu a b p then 1 else 0) := by
  have k1 := hm_lt na.1 na.2
  have k2 := hm_lt nb.1 nb.2
  have k3 := hm_lt na.2 na.1
  have k4 := hm_lt nb.2 nb.1
  have k5 := hm_neg hM a b p
  have k6 := hm_pos hM a b p
  unfold cc cR cL
  (repeat' split) <;> omega
theorem cc_low (h1 : p.2 = a.2) : cc M a b p = (if p.1 < a.1 then 1 else 0) + (if p.1 < a.1 then 1 else 0) := by
  have k1 := hm_lt na.1 na.2
  have k2 := hm_lt nb.1 nb.2
  have k3 := hm_lt na.2 na.1
  have k4 := hm_lt nb.2 nb.1
  have k5 := hm_neg hM a b p
  have k6 := hm_pos hM a b p
  have e : tu a b p = (a.1 - p.1) * (b.2 - a.2) := by unfold tu; rw [h1]; grind
  have k7 : 0 < tu a b p ↔ p.1 < a.1 := by
    rw [e]
    exact ⟨fun h => by have := pos_of_mul (show 0 < b.2 - a.2 by omega) h; omega, fun h => Int.mul_pos (by omega) (by omega)⟩
  have k8 : tu a b p < 0 ↔ a.1 < p.1 := by
    rw [e]
    exact ⟨fun h => by have := neg_of_mul (show 0 < b.2 - a.2 by omega) h; omega, fun h => mul_neg' (by omega) (by omega)⟩
  unfold cc cR cL
  (repeat' split) <;> omega
theorem cc_high (h1 : p.2 = b.2) : cc M a b p = (if p.1 = b.1 then 1 else 0) := by
  have k1 := hm_lt na.1 na.2
  have k2 := hm_lt nb.1 nb.2
  have k3 := hm_lt na.2 na.1
  have k4 := hm_lt nb.2 nb.1
  have k5 := hm_neg hM a b p
  have k6 := hm_pos hM a b p
  have e : tu a b p = (b.1 - p.1) * (b.2 - a.2) := by unfold tu; rw [h1]; grind
  have k7 : 0 < tu a b p ↔ p.1 < b.1 := by
    rw [e]
    exact ⟨fun h => by have := pos_of_mul (show 0 < b.2 - a.2 by omega) h; omega, fun h => Int.mul_pos (by omega) (by omega)⟩
  have k8 : tu a b p < 0 ↔ b.1 < p.1 := by
    rw [e]
    exact ⟨fun h => by have := neg_of_mul (show 0 < b.2 - a.2 by omega) h; omega, fun h => mul_neg' (by omega) (by omega)⟩
  unfold cc cR cL
  (repeat' split) <;> omega
omit hM in
theorem cc_out (h1 : p.2 < a.2 ∨ b.2 < p.2) : cc M a b p = 0 := by
  have k1 := hm_lt na.1 na.2
  have k2 := hm_lt nb.1 nb.2
  have k3 := hm_lt na.2 na.1
  have k4 := hm_lt nb.2 nb.1
  unfold cc cR cL
  (repeat' split) <;> omega
end

end Jor
end Go.Proofs.Ytanagdlikoinaaa

namespace Go.Proofs.Ytanagdlikoinaaa
namespace Jor

section
variable {M : Int} {a b : P} {x0 : Int} {N : Nat} (hM : 0 < M) (hN : (N : Int) ≤ M) (ha : x0 ≤ a.1 ∧ a.1 < x0 + N) (hb : x0 ≤ b.1 ∧ b.1 < x0 + N) (hab : a.2 < b.2)
include hN ha in
theorem nr_col {j : Nat} (hj : j < N) (y : Int) : Nr M a (x0 + (j : Nat), y) := by
  unfold Nr
  simp only
  omega
include hM hN ha hb hab
omit hM in
theorem row_out {y : Int} (h : y < a.2 ∨ b.2 < y) : row M a b x0 N y = 0 := by
  unfold row
  rw [sm_congr _ (fun _ => 0) N fun j hj => cc_out (nr_col hN ha hj y) (nr_col hN hb hj y) hab h, sm_zero]
theorem row_low : row M a b x0 N a.2 = 2 * (a.1 - x0) := by
  unfold row
  rw [sm_congr _ _ N fun j hj => cc_low hM (nr_col hN ha hj a.2) (nr_col hN hb hj a.2) hab rfl, sm_add]
  simp only
  rw [cnt_lt x0 a.1 N (by omega) (by omega)]
  omega
theorem row_high : row M a b x0 N b.2 = 1 := by
  unfold row
  obtain ⟨d, hd⟩ : ∃ d : Nat, b.1 = x0 + d := ⟨(b.1 - x0).toNat, by omega⟩
  rw [sm_congr _ _ N fun j hj => cc_high hM (nr_col hN ha hj b.2) (nr_col hN hb hj b.2) hab rfl]
  simp only
  rw [sm_one (d := d) N (by omega) ?_, if_pos (by omega)]
  intro i hi hne
  rw [if_neg (by omega)]
omit hab in
theorem row_mid {y : Int} (h1 : a.2 < y) (h2 : y < b.2) : row M a b x0 N y = sm (fun j => if 0 < tu a b (x0 + (j : Nat), y) then 1 else 0) N + sm (fun j => if 0 ≤ tu a b (x0 + (j : Nat), y) then 1 else 0) N := by
  unfold row
  rw [← sm_add]
  exact sm_congr _ _ N fun j hj => cc_mid hM (nr_col hN ha hj y) (nr_col hN hb hj y) h1 h2
theorem rows_mid (D : Nat) (hD : b.2 = a.2 + D + 1) : sm (fun i => row M a b x0 N (a.2 + 1 + (i : Nat))) D = D * (a.1 + b.1 + 1 - 2 * x0) := by
  rw [sm_congr _ _ D fun i hi => row_mid hM hN ha hb (y := a.2 + 1 + (i : Nat)) (by omega) (by omega), sm_add]
  rw [← sm_rev (fun i => sm (fun j => if 0 ≤ tu a b (x0 + (j : Nat), a.2 + 1 + (i : Nat)) then (1 : Int) else 0) N) D, ← sm_add, ← sm_const (a.1 + b.1 + 1 - 2 * x0) D]
  refine sm_congr _ _ D fun i hi => ?_
  have h := row_pair (y := a.2 + 1 + (i : Nat)) hab (by omega) (by omega) ha hb
  have e : a.2 + 1 + ((D - 1 - i : Nat) : Int) = a.2 + b.2 - (a.2 + 1 + (i : Nat)) := by omega
  show _ + sm (fun j => if 0 ≤ tu a b (x0 + (j : Nat), a.2 + 1 + ((D - 1 - i : Nat) : Int)) then (1 : Int) else 0) N = _
  rw [e]
  exact h
/-- a rising wall's sum over the box -/
theorem rise {y0 : Int} {H : Nat} (hy : y0 ≤ a.2) (hy2 : b.2 < y0 + H) : sm (fun k => row M a b x0 N (y0 + (k : Nat))) H = (b.2 - a.2) * (a.1 + b.1 + 1 - 2 * x0) + (a.1 - b.1) := by
  obtain ⟨A, hA⟩ : ∃ A : Nat, a.2 = y0 + A := ⟨(a.2 - y0).toNat, by omega⟩
  obtain ⟨D, hD⟩ : ∃ D : Nat, b.2 = a.2 + D + 1 := ⟨(b.2 - a.2 - 1).toNat, by omega⟩
  obtain ⟨C, hC⟩ : ∃ C : Nat, H = A + (1 + (D + (1 + C))) := ⟨H - A - D - 2, by omega⟩
  subst hC
  have z1 : sm (fun k => row M a b x0 N (y0 + (k : Nat))) A = 0 := by
    rw [sm_congr _ (fun _ => 0) A fun k hk => row_out hN ha hb hab (.inl (by omega)), sm_zero]
  have z2 : sm (fun k => row M a b x0 N (y0 + ((A + (1 + (D + (1 + k))) : Nat) : Int))) C = 0 := by
    rw [sm_congr _ (fun _ => 0) C fun k hk => row_out hN ha hb hab (.inr (by omega)), sm_zero]
  have z3 : sm (fun k => row M a b x0 N (y0 + ((A + (1 + k) : Nat) : Int))) D = D * (a.1 + b.1 + 1 - 2 * x0) := by
    rw [← rows_mid hM hN ha hb hab D hD]
    exact sm_congr _ _ D fun k hk => by rw [show y0 + ((A + (1 + k) : Nat) : Int) = a.2 + 1 + (k : Nat) by omega]
  have z4 : row M a b x0 N (y0 + ((A + 0 : Nat) : Int)) = 2 * (a.1 - x0) := by
    rw [show y0 + ((A + 0 : Nat) : Int) = a.2 by omega]
    exact row_low hM hN ha hb hab
  have z5 : row M a b x0 N (y0 + ((A + (1 + (D + 0)) : Nat) : Int)) = 1 := by
    rw [show y0 + ((A + (1 + (D + 0)) : Nat) : Int) = b.2 by omega]
    exact row_high hM hN ha hb hab
  rw [sm_split, sm_split, sm_split, sm_split, z1, z2, z3]
  simp only [sm]
  rw [z4, z5]
  have e : b.2 - a.2 = (D : Int) + 1 := by omega
  rw [e]
  grind
end

end Jor
end Go.Proofs.Ytanagdlikoinaaa

namespace Go.Proofs.Ytanagdlikoinaaa
namespace Jor

theorem cR_swap (p a b : P) : cR p b a = - cR p a b := by
  unfold cR
  rw [tu_swap a b p]
  (repeat' split) <;> omega
theorem cL_swap (p a b : P) : cL p b a = - cL p a b := by
  unfold cL
  rw [tu_swap a b p]
  (repeat' split) <;> omega
theorem cc_swap (M : Int) (a b p : P) : cc M b a p = - cc M a b p := by
  unfold cc
  rw [cR_swap (hm M p) (hm M a), cL_swap (hm M p) (hm M a)]
  omega
theorem sm_neg (f : Nat → Int) : ∀ n, sm (fun i => - f i) n = - sm f n
  | 0 => rfl
  | n + 1 => by rw [sm, sm, sm_neg f n]; omega
theorem row_swap (M : Int) (a b : P) (x0 : Int) (N : Nat) (y : Int) : row M b a x0 N y = - row M a b x0 N y := by
  unfold row
  rw [← sm_neg]
  exact sm_congr _ _ N fun j _ => cc_swap M a b _
/-- the sum over the box -/
def box (M : Int) (x0 y0 : Int) (N H : Nat) (a b : P) : Int := sm (fun k => row M a b x0 N (y0 + (k : Nat))) H
theorem box_swap (M : Int) (x0 y0 : Int) (N H : Nat) (a b : P) : box M x0 y0 N H b a = - box M x0 y0 N H a b := by
  unfold box
  rw [← sm_neg]
  exact sm_congr _ _ H fun j _ => row_swap M a b x0 N _

section
variable {M : Int} {a b p : P} (hM : 0 < M) (na : Nr M a p) (nb : Nr M b p) (hab : a.2 = b.2) (hx : b.1 < a.1)
include hM na nb hab hx
theorem cc_level : cc M a b p = if p.2 = a.2 ∧ b.1 ≤ p.1 ∧ p.1 < a.1 then 1 else 0 := by
  have k1 := hm_lt na.1 na.2
  have k2 := hm_lt nb.1 nb.2
  have k3 := hm_lt na.2 na.1
  have k4 := hm_lt nb.2 nb.1
  have k5 := hm_neg hM a b p
  have k6 := hm_pos hM a b p
  have k7 : p.2 = a.2 → tu a b p = 0 := fun h => by
    unfold tu
    rw [h, hab]
    grind
  unfold cc cR cL
  (repeat' split) <;> omega
end

section
variable {M : Int} {a b : P} {x0 y0 : Int} {N H : Nat} (hM : 0 < M) (hN : (N : Int) ≤ M) (ha : x0 ≤ a.1 ∧ a.1 < x0 + N) (hb : x0 ≤ b.1 ∧ b.1 < x0 + N) (ya : y0 ≤ a.2 ∧ a.2 < y0 + H) (yb : y0 ≤ b.2 ∧ b.2 < y0 + H)
include hM hN ha hb ya yb
theorem box_level (hab : a.2 = b.2) (hx : b.1 < a.1) : box M x0 y0 N H a b = a.1 - b.1 := by
  obtain ⟨d, hd⟩ : ∃ d : Nat, a.2 = y0 + d := ⟨(a.2 - y0).toNat, by omega⟩
  unfold box
  rw [sm_one (d := d) H (by omega) ?_]
  · unfold row
    rw [sm_congr _ (fun j => (if x0 + (j : Nat) < a.1 then 1 else 0) - (if x0 + (j : Nat) < b.1 then 1 else 0)) N ?_, sm_sub, cnt_lt x0 a.1 N (by omega) (by omega), cnt_lt x0 b.1 N (by omega) (by omega)]
    · omega
    · intro j hj
      rw [cc_level hM (nr_col hN ha hj _) (nr_col hN hb hj _) hab hx]
      simp only
      (repeat' split) <;> omega
  · intro k hk hne
    unfold row
    rw [sm_congr _ (fun _ => 0) N ?_, sm_zero]
    intro j hj
    rw [cc_level hM (nr_col hN ha hj _) (nr_col hN hb hj _) hab hx, if_neg]
    simp only
    omega
theorem box_any (hne : a ≠ b) : box M x0 y0 N H a b = (b.2 - a.2) * (a.1 + b.1 + 1 - 2 * x0) + (a.1 - b.1) := by
  rcases Int.lt_trichotomy a.2 b.2 with h | h | h
  · exact rise hM hN ha hb h ya.1 yb.2
  · have e : (b.2 - a.2) * (a.1 + b.1 + 1 - 2 * x0) = 0 := by rw [h, Int.sub_self, Int.zero_mul]
    rw [e]
    rcases Int.lt_trichotomy a.1 b.1 with g | g | g
    · rw [box_swap, box_level hM hN hb ha yb ya h.symm g]
      omega
    · exact absurd (Prod.ext g h) hne
    · rw [box_level hM hN ha hb ya yb h g]
      omega
  · rw [box_swap]
    have := rise hM hN hb ha h yb.1 ya.2
    unfold box
    rw [this]
    grind
end

end Jor
end Go.Proofs.Ytanagdlikoinaaa

namespace Go.Proofs.Ytanagdlikoinaaa
namespace Jor

theorem sgm (a x : Int) : (0 < a → (0 < x → 0 < a * x) ∧ (x < 0 → a * x < 0) ∧ (x = 0 → a * x = 0)) ∧ (a < 0 → (0 < x → a * x < 0) ∧ (x < 0 → 0 < a * x) ∧ (x = 0 → a * x = 0)) ∧ (a = 0 → a * x = 0) := by
  refine ⟨fun h => ⟨fun g => Int.mul_pos h g, fun g => ?_, fun g => by rw [g, Int.mul_zero]⟩, fun h => ⟨fun g => mul_neg' h g, fun g => ?_, fun g => by rw [g, Int.mul_zero]⟩, fun h => by rw [h, Int.zero_mul]⟩
  · rw [Int.mul_comm]; exact mul_neg' g h
  · have := Int.mul_pos (show 0 < -a by omega) (show 0 < -x by omega)
    rw [Int.neg_mul, Int.mul_neg, Int.neg_neg] at this
    exact this

/-- a wall's count by the heights of its ends over the point, and the side -/
def rr (α β z : Int) : Int := if α ≤ 0 ∧ 0 < β ∧ 0 < z then 1 else if β ≤ 0 ∧ 0 < α ∧ z < 0 then -1 else 0
def ll (α β z : Int) : Int := if α < 0 ∧ 0 ≤ β ∧ 0 ≤ z then 1 else if β < 0 ∧ 0 ≤ α ∧ z ≤ 0 then -1 else 0
theorem cR_rr (p a b : P) : cR p a b = rr (a.2 - p.2) (b.2 - p.2) (tu a b p) := by
  unfold cR rr
  (repeat' split) <;> omega
theorem cL_ll (p a b : P) : cL p a b = ll (a.2 - p.2) (b.2 - p.2) (tu a b p) := by
  unfold cL ll
  (repeat' split) <;> omega
def sg3 (x : Int) : Int := if 0 < x then 1 else if x < 0 then -1 else 0
theorem sg3_cases (x : Int) : (sg3 x = 1 ∧ 0 < x) ∨ (sg3 x = -1 ∧ x < 0) ∨ (sg3 x = 0 ∧ x = 0) := by
  unfold sg3
  (repeat' split) <;> omega
theorem rr_sg (α β z : Int) : rr α β z = rr (sg3 α) (sg3 β) (sg3 z) := by
  rcases sg3_cases α with ⟨e1, h1⟩ | ⟨e1, h1⟩ | ⟨e1, h1⟩ <;> rcases sg3_cases β with ⟨e2, h2⟩ | ⟨e2, h2⟩ | ⟨e2, h2⟩ <;> rcases sg3_cases z with ⟨e3, h3⟩ | ⟨e3, h3⟩ | ⟨e3, h3⟩ <;> (rw [e1, e2, e3]; unfold rr; (repeat' split) <;> omega)
theorem ll_sg (α β z : Int) : ll α β z = ll (sg3 α) (sg3 β) (sg3 z) := by
  rcases sg3_cases α with ⟨e1, h1⟩ | ⟨e1, h1⟩ | ⟨e1, h1⟩ <;> rcases sg3_cases β with ⟨e2, h2⟩ | ⟨e2, h2⟩ | ⟨e2, h2⟩ <;> rcases sg3_cases z with ⟨e3, h3⟩ | ⟨e3, h3⟩ | ⟨e3, h3⟩ <;> (rw [e1, e2, e3]; unfold ll; (repeat' split) <;> omega)
theorem sg3_mul (a x : Int) : sg3 (a * x) = sg3 a * sg3 x := by
  have h := sgm a x
  have e := sg3_cases (a * x)
  generalize a * x = p at *
  rcases sg3_cases a with ⟨e1, h1⟩ | ⟨e1, h1⟩ | ⟨e1, h1⟩ <;> rcases sg3_cases x with ⟨e2, h2⟩ | ⟨e2, h2⟩ | ⟨e2, h2⟩ <;> (rw [e1, e2]; omega)
/-- the same in signs alone -/
def CoreP (a b c x y z : Int) : Prop :=
  (rr a b z + rr b c x + rr c a y = 0 ∨ (rr a b z + rr b c x + rr c a y = 1 ∧ 0 ≤ x ∧ 0 ≤ y ∧ 0 ≤ z)) ∧ (ll a b z + ll b c x + ll c a y = 0 ∨ (ll a b z + ll b c x + ll c a y = 1 ∧ 0 ≤ x ∧ 0 ≤ y ∧ 0 ≤ z)) ∧
    (0 < x → 0 < y → 0 < z → rr a b z + rr b c x + rr c a y = 1 ∧ ll a b z + ll b c x + ll c a y = 1) ∧
    (0 < x → 0 < y → z = 0 → (a < 0 ∧ 0 < b ∧ rr a b z + rr b c x + rr c a y = 0 ∧ ll a b z + ll b c x + ll c a y = 1) ∨ (b < 0 ∧ 0 < a ∧ rr a b z + rr b c x + rr c a y = 1 ∧ ll a b z + ll b c x + ll c a y = 0))
def HypP (a b c x y z : Int) : Prop := ¬ (a = 0 ∧ b = 0) ∧ ¬ (b = 0 ∧ c = 0) ∧ ¬ (c = 0 ∧ a = 0) ∧ (0 < x ∨ 0 < y ∨ 0 < z) ∧ ¬ (0 ≤ a * x ∧ 0 ≤ b * y ∧ 0 ≤ c * z ∧ (0 < a * x ∨ 0 < b * y ∨ 0 < c * z)) ∧ ¬ (a * x ≤ 0 ∧ b * y ≤ 0 ∧ c * z ≤ 0 ∧ (a * x < 0 ∨ b * y < 0 ∨ c * z < 0))
instance (a b c x y z : Int) : Decidable (CoreP a b c x y z) := by unfold CoreP; infer_instance
instance (a b c x y z : Int) : Decidable (HypP a b c x y z) := by unfold HypP; infer_instance
def S3 : List Int := [1, -1, 0]
theorem core_all : (S3.all fun a => S3.all fun b => S3.all fun c => S3.all fun x => S3.all fun y => S3.all fun z => decide (HypP a b c x y z → CoreP a b c x y z)) = true := by decide +kernel
theorem sg3_mem (x : Int) : sg3 x ∈ S3 := by
  unfold S3
  rcases sg3_cases x with ⟨e, _⟩ | ⟨e, _⟩ | ⟨e, _⟩ <;> simp [e]
theorem core {α β γ x y z : Int} (h : α * x + β * y + γ * z = 0) (hs : 0 < x + y + z) (n1 : α ≠ β) (n2 : β ≠ γ) (n3 : γ ≠ α) :
    (rr α β z + rr β γ x + rr γ α y = 0 ∨ (rr α β z + rr β γ x + rr γ α y = 1 ∧ 0 ≤ x ∧ 0 ≤ y ∧ 0 ≤ z)) ∧ (ll α β z + ll β γ x + ll γ α y = 0 ∨ (ll α β z + ll β γ x + ll γ α y = 1 ∧ 0 ≤ x ∧ 0 ≤ y ∧ 0 ≤ z)) ∧
    (0 < x → 0 < y → 0 < z → rr α β z + rr β γ x + rr γ α y = 1 ∧ ll α β z + ll β γ x + ll γ α y = 1) ∧
    (0 < x → 0 < y → z = 0 → (α < 0 ∧ 0 < β ∧ rr α β z + rr β γ x + rr γ α y = 0 ∧ ll α β z + ll β γ x + ll γ α y = 1) ∨ (β < 0 ∧ 0 < α ∧ rr α β z + rr β γ x + rr γ α y = 1 ∧ ll α β z + ll β γ x + ll γ α y = 0)) := by
  have hA := core_all
  simp only [List.all_eq_true, decide_eq_true_eq] at hA
  have hC := hA _ (sg3_mem α) _ (sg3_mem β) _ (sg3_mem γ) _ (sg3_mem x) _ (sg3_mem y) _ (sg3_mem z)
  have c1 := sg3_cases α
  have c2 := sg3_cases β
  have c3 := sg3_cases γ
  have c4 := sg3_cases x
  have c5 := sg3_cases y
  have c6 := sg3_cases z
  have hH : HypP (sg3 α) (sg3 β) (sg3 γ) (sg3 x) (sg3 y) (sg3 z) := by
    unfold HypP
    rw [← sg3_mul, ← sg3_mul, ← sg3_mul]
    have d1 := sg3_cases (α * x)
    have d2 := sg3_cases (β * y)
    have d3 := sg3_cases (γ * z)
    generalize α * x = px at *
    generalize β * y = py at *
    generalize γ * z = pz at *
    clear hC hA
    refine ⟨by omega, by omega, by omega, by omega, by omega, by omega⟩
  have hK := hC hH
  unfold CoreP at hK
  rw [← rr_sg, ← rr_sg, ← rr_sg, ← ll_sg, ← ll_sg, ← ll_sg] at hK
  clear hC hA hH h
  generalize rr α β z + rr β γ x + rr γ α y = R at *
  generalize ll α β z + ll β γ x + ll γ α y = Lq at *
  obtain ⟨k1, k2, k3, k4⟩ := hK
  refine ⟨by clear k2 k3 k4; omega, by clear k1 k3 k4; omega, by clear k1 k2 k4; omega, by clear k1 k2 k3; omega⟩

/-! ## A triangle -/
def tR (p a b c : P) : Int := cR p a b + cR p b c + cR p c a
def tL (p a b c : P) : Int := cL p a b + cL p b c + cL p c a
/-- p lies in the closed triangle -/
def In (p a b c : P) : Prop := 0 ≤ tu a b p ∧ 0 ≤ tu b c p ∧ 0 ≤ tu c a p
theorem bary0 (p a b c : P) : (a.2 - p.2) * tu b c p + (b.2 - p.2) * tu c a p + (c.2 - p.2) * tu a b p = 0 := by unfold tu; grind
theorem bary1 (p a b c : P) : tu b c p + tu c a p + tu a b p = tu a b c := by unfold tu; grind
section
variable {p a b c : P} (ht : 0 < tu a b c) (n1 : a.2 ≠ b.2) (n2 : b.2 ≠ c.2) (n3 : c.2 ≠ a.2)
include ht n1 n2 n3
theorem tri_core : (tR p a b c = 0 ∨ (tR p a b c = 1 ∧ In p a b c)) ∧ (tL p a b c = 0 ∨ (tL p a b c = 1 ∧ In p a b c)) ∧
    (0 < tu b c p → 0 < tu c a p → 0 < tu a b p → tR p a b c = 1 ∧ tL p a b c = 1) ∧
    (0 < tu b c p → 0 < tu c a p → tu a b p = 0 → (a.2 < p.2 ∧ p.2 < b.2 ∧ tR p a b c = 0 ∧ tL p a b c = 1) ∨ (b.2 < p.2 ∧ p.2 < a.2 ∧ tR p a b c = 1 ∧ tL p a b c = 0)) := by
  have h := core (bary0 p a b c) (by rw [bary1]; exact ht) (by omega) (by omega) (by omega)
  rw [← cR_rr, ← cR_rr, ← cR_rr, ← cL_ll, ← cL_ll, ← cL_ll] at h
  unfold tR tL In
  obtain ⟨k1, k2, k3, k4⟩ := h
  refine ⟨by clear k2 k3 k4; omega, by clear k1 k3 k4; omega, k3, fun g1 g2 g3 => ?_⟩
  have := k4 g1 g2 g3
  clear k1 k2 k3 k4
  omega
theorem tR_nn : 0 ≤ tR p a b c := by have := (tri_core (p := p) ht n1 n2 n3).1; omega
theorem tL_nn : 0 ≤ tL p a b c := by have := (tri_core (p := p) ht n1 n2 n3).2.1; omega
/-- at the three corners together -/
theorem tri_corners : (tR a a b c + tL a a b c) + (tR b a b c + tL b a b c) + (tR c a b c + tL c a b c) = 1 := by
  have e1 : tu b c a = tu a b c := tu_rot a b c
  have e2 : tu c a b = tu a b c := by rw [tu_rot, tu_rot]
  have q : ∀ x y z : P, 0 < tu y z x → cR x y z + cL x y z = (if y.2 ≤ x.2 ∧ x.2 < z.2 then 1 else 0) + (if y.2 < x.2 ∧ x.2 ≤ z.2 then 1 else 0) := fun x y z h => by
    unfold cR cL
    have r : ¬ tu y z x < 0 := by omega
    have r2 : ¬ tu y z x ≤ 0 := by omega
    have r3 : 0 ≤ tu y z x := by omega
    simp only [h, r, r2, r3, and_true, and_false, if_false]
  have q1 := q a b c (by rw [e1]; exact ht)
  have q2 := q b c a (by rw [e2]; exact ht)
  have q3 := q c a b ht
  have f1 := cR_on (tu_fst a b)
  have f2 := cR_on (tu_snd a b)
  have f3 := cR_on (tu_fst b c)
  have f4 := cR_on (tu_snd b c)
  have f5 := cR_on (tu_fst c a)
  have f6 := cR_on (tu_snd c a)
  have g1 := cL_fst n1
  have g2 := cL_snd (a := a) (b := b)
  have g3 := cL_fst n2
  have g4 := cL_snd (a := b) (b := c)
  have g5 := cL_fst n3
  have g6 := cL_snd (a := c) (b := a)
  unfold tR tL
  rw [f1, f2, f3, f4, f5, f6, g1, g2, g3, g4, g5, g6]
  clear f1 f2 f3 f4 f5 f6 g1 g2 g3 g4 g5 g6 q e1 e2 ht
  have w : ∀ r1 l1 r2 l2 r3 l3 s t u : Int, r1 + l1 = s → r2 + l2 = t → r3 + l3 = u → r1 + l1 + (r2 + l2) + (r3 + l3) = s + t + u := by omega
  have w2 := w _ _ _ _ _ _ _ _ _ q1 q2 q3
  clear w q1 q2 q3
  generalize cR a b c = x1 at *
  generalize cL a b c = x2 at *
  generalize cR b c a = x3 at *
  generalize cL b c a = x4 at *
  generalize cR c a b = x5 at *
  generalize cL c a b = x6 at *
  rcases Int.lt_or_gt_of_ne n1 with h1 | h1 <;> rcases Int.lt_or_gt_of_ne n2 with h2 | h2 <;> rcases Int.lt_or_gt_of_ne n3 with h3 | h3 <;> clear n1 n2 n3 <;> (first | (exfalso; omega) | skip) <;>
    (repeat (first | rw [if_pos (by omega)] at w2 | rw [if_neg (by omega)] at w2)) <;> (repeat (first | rw [if_pos (by omega)] | rw [if_neg (by omega)])) <;> omega
end

end Jor
end Go.Proofs.Ytanagdlikoinaaa

namespace Go.Proofs.Ytanagdlikoinaaa
namespace Jor

abbrev T3 := Nat × Nat × Nat
/-- the three walls of a triangle of corners -/
def eds (t : T3) : List (Nat × Nat) := [(t.1, t.2.1), (t.2.1, t.2.2), (t.2.2, t.1)]
def gs (g : Nat → Nat → Int) : List (Nat × Nat) → Int
  | [] => 0
  | e :: r => g e.1 e.2 + gs g r
theorem gs_append (g : Nat → Nat → Int) : ∀ a b, gs g (a ++ b) = gs g a + gs g b
  | [], b => by simp [gs]
  | e :: a, b => by simp only [List.cons_append, gs, gs_append g a b]; omega
theorem gs_erase (g : Nat → Nat → Int) (e : Nat × Nat) : ∀ l, e ∈ l → gs g l = g e.1 e.2 + gs g (l.erase e)
  | x :: r, h => by
    by_cases hx : x = e
    · subst hx
      rw [List.erase_cons_head]
      rfl
    · rw [List.erase_cons_tail (by simpa using hx), gs, gs, gs_erase g e r ((List.mem_cons.1 h).resolve_left (Ne.symm hx))]
      omega
/-- each wall goes with its reverse -/
def cnc : Nat → List (Nat × Nat) → Bool
  | _, [] => true
  | 0, _ :: _ => false
  | k + 1, e :: r => r.contains (e.2, e.1) && cnc k (r.erase (e.2, e.1))
theorem cnc_sound {g : Nat → Nat → Int} (hg : ∀ a b, g a b = - g b a) : ∀ k l, cnc k l = true → gs g l = 0
  | _, [], _ => rfl
  | k + 1, e :: r, h => by
    unfold cnc at h
    rw [Bool.and_eq_true, List.contains_iff_mem] at h
    have h1 := gs_erase g (e.2, e.1) r h.1
    have h2 := cnc_sound hg k _ h.2
    have h3 := hg e.1 e.2
    show g e.1 e.2 + gs g r = 0
    simp only at h1
    omega
/-- the polygon's walls, reversed -/
def rw_ (n : Nat) : List (Nat × Nat) := (List.range n).map fun i => (nx n i, i)
theorem gs_map (g : Nat → Nat → Int) (f : Nat → Nat × Nat) : ∀ n, gs g ((List.range n).map f) = sm (fun i => g (f i).1 (f i).2) n
  | 0 => rfl
  | n + 1 => by rw [List.range_succ, List.map_append, gs_append, gs_map g f n, sm]; simp [gs]
theorem gs_rw {g : Nat → Nat → Int} (hg : ∀ a b, g a b = - g b a) (n : Nat) : gs g (rw_ n) = - sm (fun i => g i (nx n i)) n := by
  unfold rw_
  rw [gs_map, ← sm_neg]
  exact sm_congr _ _ n fun i _ => hg _ _
/-- a sum over the triangles -/
def ss (f : T3 → Int) : List T3 → Int
  | [] => 0
  | t :: r => f t + ss f r
theorem gs_eds (g : Nat → Nat → Int) : ∀ ts, gs g (ts.flatMap eds) = ss (fun t => g t.1 t.2.1 + g t.2.1 t.2.2 + g t.2.2 t.1) ts
  | [] => rfl
  | t :: r => by
    rw [List.flatMap_cons, gs_append, gs_eds g r]
    simp only [eds, gs, ss]
    omega
theorem ss_nn {f : T3 → Int} : ∀ ts, (∀ t, t ∈ ts → 0 ≤ f t) → 0 ≤ ss f ts
  | [], _ => Int.le_refl _
  | t :: r, h => by
    have h1 := h t (List.mem_cons_self ..)
    have h2 := ss_nn r fun x hx => h x (List.mem_cons_of_mem _ hx)
    show 0 ≤ f t + ss f r
    omega
theorem ss_one {f : T3 → Int} : ∀ ts, (∀ t, t ∈ ts → 0 ≤ f t) → ∀ a, a ∈ ts → f a ≤ ss f ts
  | t :: r, h, a, ha => by
    have h1 := h t (List.mem_cons_self ..)
    have h2 := ss_nn r fun x hx => h x (List.mem_cons_of_mem _ hx)
    show f a ≤ f t + ss f r
    rcases List.mem_cons.1 ha with rfl | ha
    · omega
    · have := ss_one r (fun x hx => h x (List.mem_cons_of_mem _ hx)) a ha
      omega
theorem ss_two {f : T3 → Int} : ∀ ts, (∀ t, t ∈ ts → 0 ≤ f t) → ∀ a b, a ∈ ts → b ∈ ts → a ≠ b → f a + f b ≤ ss f ts
  | t :: r, h, a, b, ha, hb, hab => by
    have hr : ∀ x, x ∈ r → 0 ≤ f x := fun x hx => h x (List.mem_cons_of_mem _ hx)
    have h1 := h t (List.mem_cons_self ..)
    show f a + f b ≤ f t + ss f r
    rcases List.mem_cons.1 ha with e1 | ha'
    · rcases List.mem_cons.1 hb with e2 | hb'
      · exact absurd (e1.trans e2.symm) hab
      · have := ss_one r hr b hb'
        rw [e1]
        omega
    · rcases List.mem_cons.1 hb with e2 | hb'
      · have := ss_one r hr a ha'
        rw [e2]
        omega
      · have := ss_two r hr a b ha' hb' hab
        omega
theorem ss_pos {f : T3 → Int} : ∀ ts, 0 < ss f ts → ∃ t, t ∈ ts ∧ 0 < f t
  | t :: r, h => by
    by_cases h1 : 0 < f t
    · exact ⟨t, List.mem_cons_self .., h1⟩
    · have h2 : 0 < f t + ss f r := h
      obtain ⟨x, hx, hp⟩ := ss_pos (f := f) r (by omega)
      exact ⟨x, List.mem_cons_of_mem _ hx, hp⟩
theorem ss_congr {f g : T3 → Int} : ∀ ts, (∀ t, t ∈ ts → f t = g t) → ss f ts = ss g ts
  | [], _ => rfl
  | t :: r, h => by
    show f t + ss f r = g t + ss g r
    rw [h t (List.mem_cons_self ..), ss_congr r fun x hx => h x (List.mem_cons_of_mem _ hx)]
theorem ss_const (c : Int) : ∀ ts, ss (fun _ => c) ts = ts.length * c
  | [] => by simp [ss]
  | t :: r => by
    show c + ss (fun _ => c) r = _
    rw [ss_const c r, List.length_cons]
    grind
theorem sm_ss (f : Nat → T3 → Int) (n : Nat) : ∀ ts, sm (fun i => ss (f i) ts) n = ss (fun t => sm (fun i => f i t) n) ts
  | [] => sm_zero n
  | t :: r => by
    show sm (fun i => f i t + ss (f i) r) n = sm (fun i => f i t) n + ss (fun t => sm (fun i => f i t) n) r
    rw [sm_add, sm_ss f n r]

/-- corners i and k follow each other -/
def nbr (n i k : Nat) : Bool := (i + 1) % n == k || (k + 1) % n == i
/-- a wall of some triangle, either way -/
def hasE (ts : List T3) (i k : Nat) : Bool := ts.any fun t => (eds t).contains (i, k)
/-- the corners' pairs that are walls of triangles but no walls of the polygon -/
def chd (n : Nat) (ts : List T3) (i k : Nat) : Bool := decide (i < k) && (!nbr n i k && hasE ts i k)
/-- the pairs of corners, row by row -/
def prs (n : Nat) : List (Nat × Nat) := (List.range n).flatMap fun i => (List.range n).map fun k => (i, k)
/-- triangles that fill a polygon of n corners -/
def certB (n : Nat) (ts : List T3) : Bool :=
  (ts.length + 2 == n) && (cnc 100 (ts.flatMap eds ++ rw_ n) && (ts.all (fun t => decide (t.1 < n) && (decide (t.2.1 < n) && (decide (t.2.2 < n) && (eds t).all (fun e => e.2 == (e.1 + 1) % n || hasE ts e.2 e.1)))) && ((List.range n).all (fun i => hasE ts i ((i + 1) % n)) && decide (n ≤ (prs n).countP (fun e => chd n ts e.1 e.2) + 3))))
structure Cert (n : Nat) (ts : List T3) : Prop where
  len : ts.length + 2 = n
  sum : ∀ g : Nat → Nat → Int, (∀ a b, g a b = - g b a) → ss (fun t => g t.1 t.2.1 + g t.2.1 t.2.2 + g t.2.2 t.1) ts = sm (fun i => g i (nx n i)) n
  lt : ∀ t, t ∈ ts → t.1 < n ∧ t.2.1 < n ∧ t.2.2 < n
  edge : ∀ t, t ∈ ts → ∀ a b, (a, b) ∈ eds t → b = nx n a ∨ ∃ u, u ∈ ts ∧ (b, a) ∈ eds u
  wall : ∀ i, i < n → ∃ t, t ∈ ts ∧ (i, nx n i) ∈ eds t
  chords : n ≤ (prs n).countP (fun e => chd n ts e.1 e.2) + 3
theorem hasE_iff {ts : List T3} {i k : Nat} : hasE ts i k = true ↔ ∃ t, t ∈ ts ∧ (i, k) ∈ eds t := by
  unfold hasE
  simp only [List.any_eq_true, List.contains_iff_mem]
theorem cert_of {n : Nat} {ts : List T3} (h : certB n ts = true) : Cert n ts := by
  unfold certB at h
  simp only [Bool.and_eq_true, beq_iff_eq, List.all_eq_true, decide_eq_true_eq, Bool.or_eq_true, hasE_iff, List.mem_range] at h
  obtain ⟨h1, h2, h3, h4, h5⟩ := h
  refine ⟨h1, fun g hg => ?_, fun t ht => ⟨(h3 t ht).1, (h3 t ht).2.1, (h3 t ht).2.2.1⟩, fun t ht a b he => (h3 t ht).2.2.2 _ he, h4, h5⟩
  have k1 := cnc_sound hg _ _ h2
  rw [gs_append, gs_rw hg, gs_eds] at k1
  omega

/-- t has the corners a, b, c in this order -/
def Rot (t : T3) (a b c : Nat) : Prop := t = (a, b, c) ∨ t = (c, a, b) ∨ t = (b, c, a)
theorem rot_of_eds {t : T3} {a b : Nat} (h : (a, b) ∈ eds t) : ∃ c, Rot t a b c := by
  obtain ⟨x, y, z⟩ := t
  unfold eds at h
  simp only [List.mem_cons, Prod.mk.injEq, List.not_mem_nil, or_false] at h
  unfold Rot
  rcases h with ⟨rfl, rfl⟩ | ⟨rfl, rfl⟩ | ⟨rfl, rfl⟩
  · exact ⟨z, .inl rfl⟩
  · exact ⟨x, .inr (.inl rfl)⟩
  · exact ⟨y, .inr (.inr rfl)⟩
theorem Rot.eds {t : T3} {a b c : Nat} (h : Rot t a b c) : (a, b) ∈ eds t := by
  rcases h with rfl | rfl | rfl <;> simp [Jor.eds]
theorem Rot.rot {t : T3} {a b c : Nat} (h : Rot t a b c) : Rot t b c a := by
  rcases h with rfl | rfl | rfl
  · exact .inr (.inl rfl)
  · exact .inr (.inr rfl)
  · exact .inl rfl
/-- what a triangle of corners counts -/
def trR (v : Nat → P) (p : P) (t : T3) : Int := tR p (v t.1) (v t.2.1) (v t.2.2)
def trL (v : Nat → P) (p : P) (t : T3) : Int := tL p (v t.1) (v t.2.1) (v t.2.2)
def InT (v : Nat → P) (p : P) (t : T3) : Prop := In p (v t.1) (v t.2.1) (v t.2.2)
def tuT (v : Nat → P) (t : T3) : Int := tu (v t.1) (v t.2.1) (v t.2.2)
theorem Rot.trR {t : T3} {a b c : Nat} (h : Rot t a b c) (v : Nat → P) (p : P) : trR v p t = tR p (v a) (v b) (v c) := by
  unfold Jor.trR tR
  rcases h with rfl | rfl | rfl <;> simp only <;> omega
theorem Rot.trL {t : T3} {a b c : Nat} (h : Rot t a b c) (v : Nat → P) (p : P) : trL v p t = tL p (v a) (v b) (v c) := by
  unfold Jor.trL tL
  rcases h with rfl | rfl | rfl <;> simp only <;> omega
theorem Rot.inT {t : T3} {a b c : Nat} (h : Rot t a b c) (v : Nat → P) (p : P) : InT v p t ↔ In p (v a) (v b) (v c) := by
  unfold Jor.InT In
  rcases h with rfl | rfl | rfl <;> simp only <;> (constructor <;> (rintro ⟨h1, h2, h3⟩; exact ⟨by assumption, by assumption, by assumption⟩))
theorem Rot.tuT {t : T3} {a b c : Nat} (h : Rot t a b c) (v : Nat → P) : tuT v t = tu (v a) (v b) (v c) := by
  unfold Jor.tuT
  rcases h with rfl | rfl | rfl <;> simp only
  · rw [tu_rot, tu_rot]
  · rw [tu_rot]
theorem rot_self (t : T3) : Rot t t.1 t.2.1 t.2.2 := .inl rfl

end Jor
end Go.Proofs.Ytanagdlikoinaaa

namespace Go.Proofs.Ytanagdlikoinaaa
namespace Jor

structure Trg (v : Nat → P) (n : Nat) (ts : List T3) : Prop where
  hs : Simple v n
  cert : Cert n ts
  pos : ∀ t, t ∈ ts → 0 < tuT v t
  bd : ∃ B : Int, 0 ≤ B ∧ ∀ i, i < n → Bd B (v i) (v (nx n i))

theorem tu_same (a c : P) : tu a a c = 0 := by unfold tu; grind
theorem tu_sc' (D : Int) (v : Nat → P) (t : T3) : tuT (fun i => sc D (v i)) t = D * D * tuT v t := tu_sc D _ _ _
theorem Trg.sc {v : Nat → P} {n : Nat} {ts : List T3} (h : Trg v n ts) {D : Int} (hD : 0 < D) : Trg (fun i => sc D (v i)) n ts := by
  refine ⟨simple_sc hD h.hs, h.cert, fun t ht => by rw [tu_sc']; exact Int.mul_pos (Int.mul_pos hD hD) (h.pos t ht), ?_⟩
  obtain ⟨B, hB, hb⟩ := h.bd
  refine ⟨D * B, Int.mul_nonneg (by omega) hB, fun i hi => ?_⟩
  obtain ⟨h1, h2, h3, h4⟩ := hb i hi
  have k := fun {x : Int} (hx : x ≤ B) => Int.mul_le_mul_of_nonneg_left hx (show 0 ≤ D by omega)
  unfold Bd Jor.sc
  simp only [← Int.mul_sub]
  exact ⟨k h1, k h2, k h3, k h4⟩

section
variable {v : Nat → P} {n : Nat} {ts : List T3} (h : Trg v n ts)
include h
theorem Trg.lt {t : T3} (ht : t ∈ ts) {a b c : Nat} (hr : Rot t a b c) : a < n ∧ b < n ∧ c < n := by
  have := h.cert.lt t ht
  rcases hr with rfl | rfl | rfl <;> simp only at this <;> omega
theorem Trg.tu_pos {t : T3} (ht : t ∈ ts) {a b c : Nat} (hr : Rot t a b c) : 0 < tu (v a) (v b) (v c) := by
  have := h.pos t ht
  rwa [hr.tuT] at this
theorem Trg.ne {t : T3} (ht : t ∈ ts) {a b c : Nat} (hr : Rot t a b c) : a ≠ b ∧ b ≠ c ∧ c ≠ a := by
  have hp := h.tu_pos ht hr
  refine ⟨?_, ?_, ?_⟩
  · rintro rfl; rw [tu_same] at hp; omega
  · rintro rfl; rw [tu_snd] at hp; omega
  · rintro rfl; rw [tu_fst] at hp; omega
theorem Trg.hts {t : T3} (ht : t ∈ ts) {a b c : Nat} (hr : Rot t a b c) : (v a).2 ≠ (v b).2 ∧ (v b).2 ≠ (v c).2 ∧ (v c).2 ≠ (v a).2 := by
  obtain ⟨a1, a2, a3⟩ := h.lt ht hr
  obtain ⟨b1, b2, b3⟩ := h.ne ht hr
  exact ⟨h.hs.hts _ _ a1 a2 b1, h.hs.hts _ _ a2 a3 b2, h.hs.hts _ _ a3 a1 b3⟩
theorem Trg.core {t : T3} (ht : t ∈ ts) {a b c : Nat} (hr : Rot t a b c) (p : P) : (trR v p t = 0 ∨ (trR v p t = 1 ∧ InT v p t)) ∧ (trL v p t = 0 ∨ (trL v p t = 1 ∧ InT v p t)) ∧
    (0 < tu (v b) (v c) p → 0 < tu (v c) (v a) p → 0 < tu (v a) (v b) p → trR v p t = 1 ∧ trL v p t = 1) ∧
    (0 < tu (v b) (v c) p → 0 < tu (v c) (v a) p → tu (v a) (v b) p = 0 → ((v a).2 < p.2 ∧ p.2 < (v b).2 ∧ trR v p t = 0 ∧ trL v p t = 1) ∨ ((v b).2 < p.2 ∧ p.2 < (v a).2 ∧ trR v p t = 1 ∧ trL v p t = 0)) := by
  obtain ⟨n1, n2, n3⟩ := h.hts ht hr
  rw [hr.trR, hr.trL, hr.inT]
  exact tri_core (h.tu_pos ht hr) n1 n2 n3
theorem Trg.nn {t : T3} (ht : t ∈ ts) (p : P) : 0 ≤ trR v p t ∧ 0 ≤ trL v p t := by
  have := h.core ht (rot_self t) p
  obtain ⟨k1, k2, _⟩ := this
  exact ⟨by omega, by omega⟩
theorem Trg.sumR (p : P) : ss (trR v p) ts = wR v n p := h.cert.sum (fun a b => cR p (v a) (v b)) fun a b => cR_swap p (v b) (v a)
theorem Trg.sumL (p : P) : ss (trL v p) ts = wL v n p := h.cert.sum (fun a b => cL p (v a) (v b)) fun a b => cL_swap p (v b) (v a)
theorem Trg.upR (p : P) : wR v n p ≤ 1 := by
  obtain ⟨B, hB, hb⟩ := h.bd
  have := wR_any h.hs hB hb p
  have := lef_two h.hs
  omega
theorem Trg.upL (p : P) : wL v n p ≤ 1 := by
  obtain ⟨B, hB, hb⟩ := h.bd
  have := wL_any h.hs hB hb p
  have := lef_two h.hs
  omega
theorem Trg.oneR {t : T3} (ht : t ∈ ts) (p : P) : trR v p t ≤ wR v n p := by
  rw [← h.sumR]
  exact ss_one ts (fun t ht => (h.nn ht p).1) t ht
theorem Trg.oneL {t : T3} (ht : t ∈ ts) (p : P) : trL v p t ≤ wL v n p := by
  rw [← h.sumL]
  exact ss_one ts (fun t ht => (h.nn ht p).2) t ht
theorem Trg.twoR {t u : T3} (ht : t ∈ ts) (hu : u ∈ ts) (hne : t ≠ u) (p : P) : trR v p t + trR v p u ≤ wR v n p := by
  rw [← h.sumR]
  exact ss_two ts (fun t ht => (h.nn ht p).1) t u ht hu hne
theorem Trg.twoL {t u : T3} (ht : t ∈ ts) (hu : u ∈ ts) (hne : t ≠ u) (p : P) : trL v p t + trL v p u ≤ wL v n p := by
  rw [← h.sumL]
  exact ss_two ts (fun t ht => (h.nn ht p).2) t u ht hu hne
end

/-! ## Where a point of a closed triangle lies -/
theorem bary_fst (a b c p : P) : tu b c p * a.1 + tu c a p * b.1 + tu a b p * c.1 = tu a b c * p.1 := by unfold tu; grind
theorem bary_snd (a b c p : P) : tu b c p * a.2 + tu c a p * b.2 + tu a b p * c.2 = tu a b c * p.2 := by unfold tu; grind
theorem bary_tu (a b c p x y : P) : tu b c p * tu x y a + tu c a p * tu x y b + tu a b p * tu x y c = tu a b c * tu x y p := by unfold tu; grind
theorem vertex {a b c p : P} (ht : 0 < tu a b c) (h1 : tu a b p = 0) (h2 : tu c a p = 0) : p = a := by
  have e := bary1 p a b c
  have e1 := bary_fst a b c p
  have e2 := bary_snd a b c p
  rw [h1, h2] at e e1 e2
  rw [Int.zero_mul, Int.zero_mul] at e1 e2
  have e3 : tu b c p = tu a b c := by omega
  rw [e3] at e1 e2
  have e4 : tu a b c * a.1 = tu a b c * p.1 := by omega
  have e5 : tu a b c * a.2 = tu a b c * p.2 := by omega
  exact Prod.ext (Int.eq_of_mul_eq_mul_left (by omega) e4).symm (Int.eq_of_mul_eq_mul_left (by omega) e5).symm

/-- p lies on the open wall from a to b of a triangle abc -/
def Edge (v : Nat → P) (p : P) (a b c : Nat) : Prop := 0 < tu (v b) (v c) p ∧ 0 < tu (v c) (v a) p ∧ tu (v a) (v b) p = 0
section
variable {v : Nat → P} {n : Nat} {ts : List T3} (h : Trg v n ts)
include h
theorem Trg.where {t : T3} (ht : t ∈ ts) {p : P} (hp : InT v p t) : (0 < tu (v t.2.1) (v t.2.2) p ∧ 0 < tu (v t.2.2) (v t.1) p ∧ 0 < tu (v t.1) (v t.2.1) p) ∨ (∃ a b c, Rot t a b c ∧ Edge v p a b c) ∨ (∃ a b c, Rot t a b c ∧ p = v a) := by
  have h0 := h.pos t ht
  have hr0 := rot_self t
  have hr1 := hr0.rot
  have hr2 := hr1.rot
  have p0 := h.tu_pos ht hr0
  have p1 := h.tu_pos ht hr1
  have p2 := h.tu_pos ht hr2
  obtain ⟨h1, h2, h3⟩ := hp
  have e := bary1 p (v t.1) (v t.2.1) (v t.2.2)
  by_cases z1 : tu (v t.1) (v t.2.1) p = 0
  · by_cases z2 : tu (v t.2.1) (v t.2.2) p = 0
    · exact .inr (.inr ⟨_, _, _, hr1, vertex p1 z2 z1⟩)
    · by_cases z3 : tu (v t.2.2) (v t.1) p = 0
      · exact .inr (.inr ⟨_, _, _, hr0, vertex p0 z1 z3⟩)
      · exact .inr (.inl ⟨_, _, _, hr0, by omega, by omega, z1⟩)
  · by_cases z2 : tu (v t.2.1) (v t.2.2) p = 0
    · by_cases z3 : tu (v t.2.2) (v t.1) p = 0
      · exact .inr (.inr ⟨_, _, _, hr2, vertex p2 z3 z2⟩)
      · exact .inr (.inl ⟨_, _, _, hr1, by omega, by omega, z2⟩)
    · by_cases z3 : tu (v t.2.2) (v t.1) p = 0
      · exact .inr (.inl ⟨_, _, _, hr2, by omega, by omega, z3⟩)
      · exact .inl ⟨by omega, by omega, by omega⟩
/-- an edge that is no wall of the polygon has a triangle on its other side -/
theorem Trg.twin {t : T3} (ht : t ∈ ts) {p : P} {a b c : Nat} (hr : Rot t a b c) (he : Edge v p a b c) (hw : b ≠ nx n a) : ∃ u d, u ∈ ts ∧ u ≠ t ∧ Rot u b a d ∧ Edge v p b a d ∧ trR v p t + trR v p u = 1 ∧ trL v p t + trL v p u = 1 := by
  rcases h.cert.edge t ht a b hr.eds with hb | ⟨u, hu, hue⟩
  · exact absurd hb hw
  · obtain ⟨d, hd⟩ := rot_of_eds hue
    have q1 := h.tu_pos ht hr
    have q2 := h.tu_pos hu hd
    have c1 := h.core ht hr p
    obtain ⟨e1, e2, e3⟩ := he
    have b1 := bary_tu (v a) (v b) (v c) p (v a) (v d)
    have b2 := bary_tu (v a) (v b) (v c) p (v d) (v b)
    rw [e3, tu_fst, Int.mul_zero, Int.zero_mul, Int.zero_add, Int.add_zero] at b1
    rw [e3, tu_snd, Int.mul_zero, Int.zero_mul, Int.add_zero, Int.add_zero] at b2
    have r1 : tu (v a) (v d) (v b) = tu (v b) (v a) (v d) := by rw [tu_rot]
    have r2 : tu (v d) (v b) (v a) = tu (v b) (v a) (v d) := by rw [tu_rot, tu_rot]
    rw [r1] at b1
    rw [r2] at b2
    have f1 : 0 < tu (v a) (v d) p := pos_of_mul q1 (by rw [Int.mul_comm, ← b1]; exact Int.mul_pos e2 q2)
    have f2 : 0 < tu (v d) (v b) p := pos_of_mul q1 (by rw [Int.mul_comm, ← b2]; exact Int.mul_pos e1 q2)
    have f3 : tu (v b) (v a) p = 0 := by rw [tu_swap, e3]; rfl
    have c2 := h.core hu hd p
    have k1 := c1.2.2.2 e1 e2 e3
    have k2 := c2.2.2.2 f1 f2 f3
    refine ⟨u, d, hu, ?_, hd, ⟨f1, f2, f3⟩, ?_, ?_⟩
    · rintro rfl
      clear c1 c2
      omega
    · clear c1 c2; omega
    · clear c1 c2; omega
/-- a point of a closed triangle on a wall of the polygon: the wall is the triangle's -/
theorem Trg.on_wall {t : T3} (ht : t ∈ ts) {p : P} (hp : InT v p t) (hg : ∀ k, k < n → (v k).2 ≠ p.2) {k : Nat} (hk : k < n) (ho : On p (v k) (v (nx n k))) : ∃ c, Rot t k (nx n k) c ∧ Edge v p k (nx n k) c := by
  have d := wLR_on h.hs hk hg ho
  have d2 : wL v n p - wR v n p = 1 ∨ wL v n p - wR v n p = -1 := by
    split at d <;> omega
  have u1 := h.upR p
  have u2 := h.upL p
  rcases h.where ht hp with ⟨z2, z3, z1⟩ | ⟨a, b, c, hr, he⟩ | ⟨a, b, c, hr, rfl⟩
  · have c1 := (h.core ht (rot_self t) p).2.2.1 z2 z3 z1
    have := h.oneR ht p
    have := h.oneL ht p
    omega
  · by_cases hb : b = nx n a
    · subst hb
      by_cases hak : a = k
      · subst hak
        exact ⟨c, hr, he⟩
      · have c1 := (h.core ht hr p).2.2.2 he.1 he.2.1 he.2.2
        have hoa : On p (v a) (v (nx n a)) := ⟨by clear d d2; omega, he.2.2⟩
        have := h.hs.off_on (h.lt ht hr).1 hk (Ne.symm hak) hoa
        exact absurd ho.2 (this ho.1)
    · obtain ⟨u, d', hu, hne, _, _, s1, s2⟩ := h.twin ht hr he hb
      have := h.twoR ht hu hne.symm p
      have := h.twoL ht hu hne.symm p
      omega
  · exact absurd rfl (hg a (h.lt ht hr).1)
/-- a point of a closed triangle off the walls lies inside the polygon -/
theorem Trg.in_off {t : T3} (ht : t ∈ ts) {p : P} (hp : InT v p t) (hg : ∀ k, k < n → (v k).2 ≠ p.2) (ho : ∀ i, i < n → Off p (v i) (v (nx n i))) : wn v n p = 1 := by
  have w1 := wR_off (v := v) hg
  have w2 := wL_off (v := v) hg ho
  have u1 := h.upR p
  have u2 := h.oneR ht p
  have u3 := h.oneL ht p
  rcases h.where ht hp with ⟨z2, z3, z1⟩ | ⟨a, b, c, hr, he⟩ | ⟨a, b, c, hr, rfl⟩
  · have c1 := (h.core ht (rot_self t) p).2.2.1 z2 z3 z1
    omega
  · have c1 := (h.core ht hr p).2.2.2 he.1 he.2.1 he.2.2
    omega
  · exact absurd rfl (hg a (h.lt ht hr).1)
end

end Jor
end Go.Proofs.Ytanagdlikoinaaa

namespace Go.Proofs.Ytanagdlikoinaaa
namespace Jor

/-- a place near j, in the multiplied plane, on the way into the triangle -/
def nearP (D : Int) (x y z : P) : P := ((D - 2) * x.1 + y.1 + z.1, (D - 2) * x.2 + y.2 + z.2)
theorem tu_near (D : Int) (a b x y z : P) : tu (sc D a) (sc D b) (nearP D x y z) = D * ((D - 2) * tu a b x + tu a b y + tu a b z) := by
  unfold tu sc nearP
  grind
theorem near_pos {D s k l : Int} (hD : 2 < D) (hs : 0 < s) (hb : -(D - 3) ≤ k + l) : 0 < (D - 2) * s + k + l := by
  have := Int.mul_le_mul_of_nonneg_left (show 1 ≤ s by omega) (show 0 ≤ D - 2 by omega)
  omega
def ab (x : Int) : Int := (x.natAbs : Int)
theorem ab_bd (x : Int) : -(ab x) ≤ x ∧ x ≤ ab x ∧ 0 ≤ ab x := by unfold ab; omega

section
variable {v : Nat → P} {n : Nat} {ts : List T3} (h : Trg v n ts)
include h
/-- no corner lies in a triangle but its own -/
theorem Trg.no_corner {t : T3} (ht : t ∈ ts) {j : Nat} (hj : j < n) (hp : InT v (v j) t) : ∃ a b, Rot t j a b := by
  rcases h.where ht hp with hstr | ⟨a, b, c, hr, he⟩ | ⟨a, b, c, hr, hv⟩
  · -- strictly inside
    exfalso
    obtain ⟨g2, g3, g1⟩ := hstr
    obtain ⟨u, hu, hue⟩ := h.cert.wall j hj
    obtain ⟨d, hd⟩ := rot_of_eds hue
    have hne : t ≠ u := by
      rintro rfl
      rcases hd with e | e | e
      · rw [e] at g1 g2 g3; simp only at g1 g2 g3; rw [tu_fst] at g1; omega
      · rw [e] at g1 g2 g3; simp only at g1 g2 g3; rw [tu_snd] at g1; omega
      · rw [e] at g1 g2 g3; simp only at g1 g2 g3; rw [tu_snd] at g2; omega
    have hp2 := h.tu_pos hu hd
    obtain ⟨a, b, c⟩ := t
    simp only at g1 g2 g3
    obtain ⟨D, hD⟩ : ∃ D : Int, D = 3 + (ab (tu (v a) (v b) (v (nx n j))) + ab (tu (v a) (v b) (v d))) + (ab (tu (v b) (v c) (v (nx n j))) + ab (tu (v b) (v c) (v d))) + (ab (tu (v c) (v a) (v (nx n j))) + ab (tu (v c) (v a) (v d))) := ⟨_, rfl⟩
    have a1 := ab_bd (tu (v a) (v b) (v (nx n j)))
    have a2 := ab_bd (tu (v a) (v b) (v d))
    have a3 := ab_bd (tu (v b) (v c) (v (nx n j)))
    have a4 := ab_bd (tu (v b) (v c) (v d))
    have a5 := ab_bd (tu (v c) (v a) (v (nx n j)))
    have a6 := ab_bd (tu (v c) (v a) (v d))
    have hD3 : 2 < D := by omega
    have hs := h.sc (D := D) (by omega)
    have q1 := near_pos (D := D) (k := tu (v a) (v b) (v (nx n j))) (l := tu (v a) (v b) (v d)) hD3 g1 (by omega)
    have q2 := near_pos (D := D) (k := tu (v b) (v c) (v (nx n j))) (l := tu (v b) (v c) (v d)) hD3 g2 (by omega)
    have q3 := near_pos (D := D) (k := tu (v c) (v a) (v (nx n j))) (l := tu (v c) (v a) (v d)) hD3 g3 (by omega)
    have c1 := (hs.core ht (rot_self (a, b, c)) (nearP D (v j) (v (nx n j)) (v d))).2.2.1 (by rw [tu_near]; exact Int.mul_pos (by omega) q2) (by rw [tu_near]; exact Int.mul_pos (by omega) q3) (by rw [tu_near]; exact Int.mul_pos (by omega) q1)
    have c2 := (hs.core hu hd (nearP D (v j) (v (nx n j)) (v d))).2.2.1 (by rw [tu_near, tu_fst, tu_snd, tu_rot]; exact Int.mul_pos (by omega) (by have := Int.mul_pos (show 0 < D - 2 by omega) hp2; omega)) (by rw [tu_near, tu_fst, tu_snd, tu_rot, tu_rot]; exact Int.mul_pos (by omega) (by omega)) (by rw [tu_near, tu_fst, tu_snd]; exact Int.mul_pos (by omega) (by omega))
    have := hs.twoR ht hu hne (nearP D (v j) (v (nx n j)) (v d))
    have := hs.upR (nearP D (v j) (v (nx n j)) (v d))
    omega
  · -- on an edge
    exfalso
    obtain ⟨u, hu, hue⟩ := h.cert.wall j hj
    obtain ⟨d, hd⟩ := rot_of_eds hue
    have hp2 := h.tu_pos hu hd
    have ha := (h.lt ht hr).1
    have hja : j ≠ a := by rintro rfl; have := he.2.1; rw [tu_snd] at this; omega
    have hjb : j ≠ b := by rintro rfl; have := he.1; rw [tu_fst] at this; omega
    have hob : On (v j) (v a) (v b) := ⟨by have := (h.core ht hr (v j)).2.2.2 he.1 he.2.1 he.2.2; omega, he.2.2⟩
    have hw : b ≠ nx n a := by
      rintro rfl
      exact absurd hob.2 (h.hs.off a j ha hj hja hjb hob.1)
    obtain ⟨w, e, hw1, hw2, hw3, hw4, _, _⟩ := h.twin ht hr he hw
    have main : ∀ (t : T3) (a b c : Nat), t ∈ ts → Rot t a b c → Edge v (v j) a b c → 0 ≤ tu (v a) (v b) (v (nx n j)) + tu (v a) (v b) (v d) → False := by
      intro t a b c ht hr he hs0
      obtain ⟨g2, g3, g1⟩ := he
      have hne : t ≠ u := by
        rintro rfl
        have k : j = a ∨ j = b ∨ j = c := by
          rcases hr with e1 | e1 | e1 <;> rcases hd with e2 | e2 | e2 <;> (rw [e1] at e2; simp only [Prod.mk.injEq] at e2; omega)
        rcases k with rfl | rfl | rfl
        · rw [tu_snd] at g3; omega
        · rw [tu_fst] at g2; omega
        · have := h.tu_pos ht hr; omega
      obtain ⟨D, hD⟩ : ∃ D : Int, D = 3 + (ab (tu (v b) (v c) (v (nx n j))) + ab (tu (v b) (v c) (v d))) + (ab (tu (v c) (v a) (v (nx n j))) + ab (tu (v c) (v a) (v d))) := ⟨_, rfl⟩
      have a3 := ab_bd (tu (v b) (v c) (v (nx n j)))
      have a4 := ab_bd (tu (v b) (v c) (v d))
      have a5 := ab_bd (tu (v c) (v a) (v (nx n j)))
      have a6 := ab_bd (tu (v c) (v a) (v d))
      have hD3 : 2 < D := by omega
      have hs := h.sc (D := D) (by omega)
      have q2 := near_pos (D := D) (k := tu (v b) (v c) (v (nx n j))) (l := tu (v b) (v c) (v d)) hD3 g2 (by omega)
      have q3 := near_pos (D := D) (k := tu (v c) (v a) (v (nx n j))) (l := tu (v c) (v a) (v d)) hD3 g3 (by omega)
      have q2' := Int.mul_pos (show 0 < D by omega) q2
      have q3' := Int.mul_pos (show 0 < D by omega) q3
      rw [← tu_near] at q2' q3'
      have c2 := (hs.core hu hd (nearP D (v j) (v (nx n j)) (v d))).2.2.1 (by rw [tu_near, tu_fst, tu_snd, tu_rot]; exact Int.mul_pos (by omega) (by have := Int.mul_pos (show 0 < D - 2 by omega) hp2; omega)) (by rw [tu_near, tu_fst, tu_snd, tu_rot, tu_rot]; exact Int.mul_pos (by omega) (by omega)) (by rw [tu_near, tu_fst, tu_snd]; exact Int.mul_pos (by omega) (by omega))
      have t1 := hs.twoR ht hu hne (nearP D (v j) (v (nx n j)) (v d))
      have t2 := hs.twoL ht hu hne (nearP D (v j) (v (nx n j)) (v d))
      have t3 := hs.upR (nearP D (v j) (v (nx n j)) (v d))
      have t4 := hs.upL (nearP D (v j) (v (nx n j)) (v d))
      have e1 : tu (Jor.sc D (v a)) (Jor.sc D (v b)) (nearP D (v j) (v (nx n j)) (v d)) = D * (tu (v a) (v b) (v (nx n j)) + tu (v a) (v b) (v d)) := by
        rw [tu_near, g1, Int.mul_zero, Int.zero_add]
      rcases Int.lt_trichotomy (tu (v a) (v b) (v (nx n j)) + tu (v a) (v b) (v d)) 0 with hlt | hz | hgt
      · omega
      · rw [hz, Int.mul_zero] at e1
        have c1 := (hs.core ht hr (nearP D (v j) (v (nx n j)) (v d))).2.2.2 q2' q3' e1
        clear a3 a4 a5 a6 hD q2 q3 q2' q3'
        omega
      · have c1 := (hs.core ht hr (nearP D (v j) (v (nx n j)) (v d))).2.2.1 q2' q3' (by rw [e1]; exact Int.mul_pos (by omega) hgt)
        omega
    rcases Int.lt_or_le (tu (v a) (v b) (v (nx n j)) + tu (v a) (v b) (v d)) 0 with hlt | hge
    · exact main w b a e hw1 hw3 hw4 (by rw [tu_swap (v a) (v b), tu_swap (v a) (v b)]; omega)
    · exact main t a b c ht hr he hge
  · have : j = a := by
      by_cases e : j = a
      · exact e
      · exact absurd (congrArg Prod.snd hv) (h.hs.hts j a hj (h.lt ht hr).1 e)
    subst this
    exact ⟨b, c, hr⟩

omit h in
theorem sm_three {f : Nat → Int} {a b c n : Nat} (ha : a < n) (hb : b < n) (hc : c < n) (h1 : a ≠ b) (h2 : b ≠ c) (h3 : c ≠ a) (hz : ∀ i, i < n → i ≠ a → i ≠ b → i ≠ c → f i = 0) : sm f n = f a + f b + f c := by
  have e : sm f n = sm (fun i => if i = a then f a else 0) n + sm (fun i => if i = a then 0 else f i) n := by
    rw [← sm_add]
    refine sm_congr _ _ n fun i _ => ?_
    by_cases e1 : i = a
    · subst e1; simp
    · simp [e1]
  rw [e, sm_one (f := fun i => if i = a then f a else 0) n ha (fun i _ hi => by simp [hi]), sm_two (f := fun i => if i = a then 0 else f i) hb hc h2 (fun i hi e1 e2 => by
    by_cases e3 : i = a
    · simp [e3]
    · simp [e3, hz i hi e3 e1 e2])]
  simp [Ne.symm h1, h3]
  omega
/-- over the corners each triangle counts one -/
theorem Trg.corners : sm (fun j => wR v n (v j) + wL v n (v j)) n = (n : Int) - 2 := by
  have e : ∀ j, wR v n (v j) + wL v n (v j) = ss (trR v (v j)) ts + ss (trL v (v j)) ts := fun j => by rw [h.sumR, h.sumL]
  rw [sm_congr _ _ n fun j _ => e j, sm_add, sm_ss (fun j t => trR v (v j) t), sm_ss (fun j t => trL v (v j) t)]
  have e2 : ∀ l : List T3, ss (fun t => sm (fun j => trR v (v j) t) n) l + ss (fun t => sm (fun j => trL v (v j) t) n) l = ss (fun t => sm (fun j => trR v (v j) t + trL v (v j) t) n) l := by
    intro l
    induction l with
    | nil => rfl
    | cons t r ih =>
      simp only [ss]
      rw [sm_add]
      omega
  rw [e2, ss_congr (g := fun _ => 1) ts ?_, ss_const]
  · have := h.cert.len
    omega
  · intro t ht
    obtain ⟨l1, l2, l3⟩ := h.lt ht (rot_self t)
    obtain ⟨n1, n2, n3⟩ := h.ne ht (rot_self t)
    obtain ⟨g1, g2, g3⟩ := h.hts ht (rot_self t)
    rw [sm_three l1 l2 l3 n1 n2 n3 ?_]
    · exact tri_corners (h.tu_pos ht (rot_self t)) g1 g2 g3
    · intro i hi e1 e2 e3
      have c := h.core ht (rot_self t) (v i)
      have hno : ¬ InT v (v i) t := fun hin => by
        obtain ⟨a, b, hr⟩ := h.no_corner ht hi hin
        rcases hr with e | e | e
        · exact e1 (by rw [e])
        · exact e2 (by rw [e])
        · exact e3 (by rw [e])
      have c1 := c.1
      have c2 := c.2.1
      clear c
      have d1 : trR v (v i) t = 0 := by
        rcases c1 with c1 | ⟨_, c1⟩
        · exact c1
        · exact absurd c1 hno
      have d2 : trL v (v i) t = 0 := by
        rcases c2 with c2 | ⟨_, c2⟩
        · exact c2
        · exact absurd c2 hno
      rw [d1, d2]
      rfl
end

end Jor
end Go.Proofs.Ytanagdlikoinaaa

