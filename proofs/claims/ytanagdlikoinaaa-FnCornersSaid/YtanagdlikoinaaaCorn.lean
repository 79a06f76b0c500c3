/-
  Corners of the rooms that may be drawn: a test for all of them, and what it says. No program in sight.
-/
import Derived.Test.YtanagdlikoinaaaEnum
import Derived.Test.YtanagdlikoinaaaTurned
import Derived.Test.YtanagdlikoinaaaWallAt
namespace Go.Proofs.Ytanagdlikoinaaa
open Go.RowKit

def neg : Int → Bool
  | .negSucc _ => true
  | .ofNat _ => false
theorem neg_iff (x : Int) : neg x = true ↔ x < 0 := by
  cases x with
  | ofNat n => simp [neg]
  | negSucc n => simp [neg]
/-- the turn at the corner behind i -/
def tz (l : List (Int × Int)) (i : Nat) : Int := turnZ (gx l i) (gy l i) (gx l (nx l i)) (gy l (nx l i)) (gx l ((i + 2) % l.length)) (gy l ((i + 2) % l.length))
def flg (a b : Int × Int) : List (Int × Int) → List ((Int × Int) × Bool)
  | [] => []
  | c :: r => (b, neg (turnZ a.1 a.2 b.1 b.2 c.1 c.2)) :: flg b c r
def flags : List (Int × Int) → List ((Int × Int) × Bool)
  | a :: b :: r => flg a b (r ++ [a, b])
  | _ => []
/-- q is lower than p, in three directions -/
def low0 (p q : Int × Int) : Bool := neg (q.2 - p.2) || (!neg (p.2 - q.2) && neg (q.1 - p.1))
def low1 (p q : Int × Int) : Bool := neg (q.1 - p.1) || (!neg (p.1 - q.1) && neg (p.2 - q.2))
def low2 (p q : Int × Int) : Bool := neg (p.2 - q.2) || (!neg (q.2 - p.2) && neg (p.1 - q.1))
def exts (l : List (Int × Int)) (p : Int × Int) : Bool := l.any (low0 p) && (l.any (low1 p) && l.any (low2 p))
def pass (l : List (Int × Int)) (a b : Int × Int) : List (Int × Int) → Nat → Nat
  | [], n => n
  | c :: r, n => cond (neg (turnZ a.1 a.2 b.1 b.2 c.1 c.2)) (cond (exts l b) (pass l b c r (n + 1)) 1000) (pass l b c r n)
def zero : Int → Bool
  | .ofNat 0 => true
  | _ => false
theorem zero_iff (x : Int) : zero x = true ↔ x = 0 := by
  cases x with
  | ofNat n =>
    cases n with
    | zero => exact ⟨fun _ => rfl, fun _ => rfl⟩
    | succ n => exact ⟨fun h => (by cases h), fun h => (by cases h)⟩
  | negSucc n => exact ⟨fun h => (by cases h), fun h => (by cases h)⟩
def rct (a : Int × Int) : List (Int × Int) → Bool
  | [] => true
  | b :: r => (zero (a.1 - b.1) || zero (a.2 - b.2)) && rct b r
/-- what is asked of a room's corners -/
def goodB : List (Int × Int) → Bool
  | a :: b :: r => Nat.ble (pass (a :: b :: r) a b (r ++ [a, b]) 0 + 3) (r.length + 2) && cond (rct a (b :: r ++ [a])) (Nat.beq (r.length + 2) (2 * pass (a :: b :: r) a b (r ++ [a, b]) 0 + 4)) true
  | _ => false
def crossZ (a b c d : Int × Int) : Bool := decide (sgn (turnZ c.1 c.2 d.1 d.2 a.1 a.2) * sgn (turnZ c.1 c.2 d.1 d.2 b.1 b.2) < 0) && decide (sgn (turnZ a.1 a.2 b.1 b.2 c.1 c.2) * sgn (turnZ a.1 a.2 b.1 b.2 d.1 d.2) < 0)
def onZB (p a b : Int × Int) : Bool := decide (turnZ a.1 a.2 b.1 b.2 p.1 p.2 = 0) && (inB p.1 (min a.1 b.1) (max a.1 b.1) && inB p.2 (min a.2 b.2) (max a.2 b.2))
def pt (l : List (Int × Int)) (i : Nat) : Int × Int := (gx l i, gy l i)
def meetZ (l : List (Int × Int)) (i k : Nat) : Bool := crossZ (pt l i) (pt l (nx l i)) (pt l k) (pt l (nx l k)) || (onZB (pt l i) (pt l k) (pt l (nx l k)) || (onZB (pt l (nx l i)) (pt l k) (pt l (nx l k)) || (onZB (pt l k) (pt l i) (pt l (nx l i)) || onZB (pt l (nx l k)) (pt l i) (pt l (nx l i)))))
/-- no room -/
def badB (l : List (Int × Int)) : Bool := (List.range l.length).any (fun i => decide (tz l i = 0) || (List.range l.length).any fun k => askI l i k && meetZ l i k) || decide (areaZ l ≤ 0)
/-- the test -/
def cornT (l : List (Int × Int)) : Bool := cond (goodB l) true (badB l)

theorem tn_tz {l : List (Int × Int)} (hf : Fine l) {i : Nat} (hi : i < l.length) : tn l i = tz l i := by
  have h0 : 0 < l.length := by omega
  have w : ∀ k, k < l.length → within 1000000 (gx l k) (gy l k) := fun k hk => within_more (within_of_pok (hf.pok hk)) (by omega)
  exact turnW_eq (w i hi) (w _ (nx_lt hi)) (w _ (Nat.mod_lt _ h0))
theorem bad_room {l : List (Int × Int)} (h : badB l = true) : roomB l = false := by
  rw [Bool.eq_false_iff]
  intro hr
  obtain ⟨h1, h2, h3, h4, h5⟩ := (roomB_iff l).1 hr
  have hf := (roomB_fine hr).1
  have w : ∀ k, k < l.length → within 1000000 (gx l k) (gy l k) := fun k hk => within_more (within_of_pok (hf.pok hk)) (by omega)
  unfold badB at h
  rw [Bool.or_eq_true, List.any_eq_true, decide_eq_true_eq] at h
  rcases h with ⟨i, hi, h⟩ | h
  · rw [List.mem_range] at hi
    rw [Bool.or_eq_true, decide_eq_true_eq, List.any_eq_true] at h
    rcases h with h | ⟨k, hk, h⟩
    · exact h3 i hi (by rw [tn_tz hf hi]; exact h)
    · rw [List.mem_range] at hk
      rw [Bool.and_eq_true] at h
      have hm := h4 i k hi hk (askS_of_askI hi hk h.1)
      have w1 := w i hi
      have w2 := w _ (nx_lt hi)
      have w3 := w k hk
      have w4 := w _ (nx_lt hk)
      have e : mt l i k = meetZ l i k := by
        unfold mt meetV meetZ crossB sideB crossZ onZB onW pt
        rw [room_wok hr hi, room_wok hr hk, turnW_eq w3 w4 w1, turnW_eq w3 w4 w2, turnW_eq w1 w2 w3, turnW_eq w1 w2 w4]
        rfl
      rw [e, h.2] at hm
      cases hm
  · omega

/-! ## What the test says -/
theorem flg_get : ∀ (r : List (Int × Int)) (a b : Int × Int) (i : Nat), i < r.length → (flg a b r)[i]? = some ((a :: b :: r).getD (i + 1) (0, 0), neg (turnZ (gx (a :: b :: r) i) (gy (a :: b :: r) i) (gx (a :: b :: r) (i + 1)) (gy (a :: b :: r) (i + 1)) (gx (a :: b :: r) (i + 2)) (gy (a :: b :: r) (i + 2))))
  | c :: r, a, b, 0, _ => rfl
  | c :: r, a, b, i + 1, h => by
    have := flg_get r b c i (by simpa using h)
    exact this
theorem flg_length : ∀ (r : List (Int × Int)) (a b : Int × Int), (flg a b r).length = r.length
  | [], _, _ => rfl
  | c :: r, a, b => by simp [flg, flg_length r b c]
theorem getD_twice (l : List (Int × Int)) (h2 : 2 ≤ l.length) {i : Nat} (hi : i < l.length + 2) : (l ++ l.take 2).getD i (0, 0) = l.getD (i % l.length) (0, 0) := by
  rw [List.getD_eq_getElem?_getD, List.getD_eq_getElem?_getD]
  rcases Nat.lt_or_ge i l.length with h | h
  · rw [List.getElem?_append_left h, Nat.mod_eq_of_lt h]
  · rw [List.getElem?_append_right h, List.getElem?_take, if_pos (by omega), Nat.mod_eq_sub_mod h, Nat.mod_eq_of_lt (by omega)]
theorem flags_get {l : List (Int × Int)} (h2 : 2 ≤ l.length) {i : Nat} (hi : i < l.length) : (flags l)[i]? = some (pt l (nx l i), neg (tz l i)) := by
  match l, h2 with
  | a :: b :: r, h2 =>
    have hx : a :: b :: (r ++ [a, b]) = (a :: b :: r) ++ (a :: b :: r).take 2 := rfl
    have h := flg_get (r ++ [a, b]) a b i (by simp at hi ⊢; omega)
    unfold flags
    rw [h]
    have g : ∀ k, k < (a :: b :: r).length + 2 → (a :: b :: (r ++ [a, b])).getD k (0, 0) = (a :: b :: r).getD (k % (a :: b :: r).length) (0, 0) := fun k hk => by rw [hx]; exact getD_twice _ h2 hk
    have e0 := g i (by omega)
    have e1 := g (i + 1) (by omega)
    have e2 := g (i + 2) (by omega)
    rw [Nat.mod_eq_of_lt hi] at e0
    unfold tz pt nx gx gy
    rw [e0, e1, e2]
theorem pass_sound (l : List (Int × Int)) : ∀ (r : List (Int × Int)) (a b : Int × Int) (n : Nat), pass l a b r n < 1000 → pass l a b r n = n + (flg a b r).countP (fun e => e.2) ∧ ∀ e, e ∈ flg a b r → e.2 = true → exts l e.1 = true
  | [], _, _, n, _ => ⟨rfl, fun e he => by cases he⟩
  | c :: r, a, b, n, h => by
    unfold pass at h ⊢
    unfold flg
    cases hn : neg (turnZ a.1 a.2 b.1 b.2 c.1 c.2)
    · rw [hn] at h
      obtain ⟨h1, h2⟩ := pass_sound l r b c n h
      refine ⟨by rw [List.countP_cons_of_neg (by simp)]; exact h1, fun e he hee => ?_⟩
      rcases List.mem_cons.1 he with rfl | he
      · cases hee
      · exact h2 e he hee
    · rw [hn] at h
      cases hx : exts l b
      · rw [hx] at h
        exact absurd h (by simp)
      · rw [hx] at h
        obtain ⟨h1, h2⟩ := pass_sound l r b c (n + 1) h
        refine ⟨by rw [List.countP_cons_of_pos (by simp)]; show pass l b c r (n + 1) = _; rw [h1]; omega, fun e he hee => ?_⟩
        rcases List.mem_cons.1 he with rfl | he
        · exact hx
        · exact h2 e he hee
theorem rct_get : ∀ (r : List (Int × Int)) (a : Int × Int), (∀ i, i < r.length → gx (a :: r) i = gx (a :: r) (i + 1) ∨ gy (a :: r) i = gy (a :: r) (i + 1)) → rct a r = true
  | [], _, _ => rfl
  | b :: r, a, h => by
    unfold rct
    rw [Bool.and_eq_true, Bool.or_eq_true, zero_iff, zero_iff]
    refine ⟨?_, rct_get r b fun i hi => h (i + 1) (by simpa using hi)⟩
    have h0 := h 0 (by simp)
    have h1 : a.1 = b.1 ∨ a.2 = b.2 := h0
    omega
/-- the walls run along the axes -/
def rectP (l : List (Int × Int)) : Prop := ∀ i, i < l.length → gx l i = gx l (nx l i) ∨ gy l i = gy l (nx l i)
/-- how many corners stick in -/
def rcount (l : List (Int × Int)) : Nat := (List.range l.length).countP fun i => neg (tz l i)
theorem flags_map {l : List (Int × Int)} (h2 : 2 ≤ l.length) : flags l = (List.range l.length).map fun i => (pt l (nx l i), neg (tz l i)) := by
  have hlen : (flags l).length = l.length := by
    match l, h2 with
    | a :: b :: r, _ => simp [flags, flg_length]
  apply List.ext_getElem?
  intro i
  by_cases hi : i < l.length
  · rw [flags_get h2 hi, List.getElem?_map, List.getElem?_range hi]
    rfl
  · rw [List.getElem?_eq_none (by omega), List.getElem?_eq_none (by simp; omega)]
theorem good_sound {l : List (Int × Int)} (h10 : l.length ≤ 10) (h : goodB l = true) : rcount l + 3 ≤ l.length ∧ (∀ i, i < l.length → tz l i < 0 → exts l (pt l (nx l i)) = true) ∧ (rectP l → l.length = 2 * rcount l + 4) := by
  match l, h10, h with
  | a :: b :: r, h10, h =>
    unfold goodB at h
    rw [Bool.and_eq_true, Nat.ble_eq] at h
    obtain ⟨h1, h3⟩ := h
    have hl : (a :: b :: r).length = r.length + 2 := rfl
    obtain ⟨h4, h5⟩ := pass_sound (a :: b :: r) (r ++ [a, b]) a b 0 (by omega)
    have hfl : flg a b (r ++ [a, b]) = flags (a :: b :: r) := rfl
    have hfm := flags_map (l := a :: b :: r) (by simp)
    rw [hfl, hfm] at h4 h5
    have hc : ((List.range (a :: b :: r).length).map fun i => (pt (a :: b :: r) (nx (a :: b :: r) i), neg (tz (a :: b :: r) i))).countP (fun e => e.2) = rcount (a :: b :: r) := by
      rw [List.countP_map]
      rfl
    rw [hc, Nat.zero_add] at h4
    rw [h4] at h1 h3
    refine ⟨by omega, fun i hi ht => ?_, fun hp => ?_⟩
    · have h6 := h5 (pt (a :: b :: r) (nx (a :: b :: r) i), neg (tz (a :: b :: r) i)) (List.mem_map.2 ⟨i, List.mem_range.2 hi, rfl⟩) ((neg_iff _).2 ht)
      exact h6
    · have hr : rct a (b :: r ++ [a]) = true := by
        refine rct_get _ a fun i hi => ?_
        have hx : a :: (b :: r ++ [a]) = ((a :: b :: r) ++ [a]) := rfl
        have g : ∀ k, k < (a :: b :: r).length + 1 → (a :: (b :: r ++ [a])).getD k (0, 0) = (a :: b :: r).getD (k % (a :: b :: r).length) (0, 0) := fun k hk => by
          rw [hx, List.getD_eq_getElem?_getD, List.getD_eq_getElem?_getD]
          rcases Nat.lt_or_ge k (a :: b :: r).length with h | h
          · rw [List.getElem?_append_left h, Nat.mod_eq_of_lt h]
          · have e : k = (a :: b :: r).length := by omega
            rw [e, List.getElem?_append_right (Nat.le_refl _), Nat.mod_self, Nat.sub_self]
            rfl
        have hi' : i < (a :: b :: r).length := by simpa using hi
        have h0 := hp i hi'
        have e0 := g i (by omega)
        have e1 := g (i + 1) (by omega)
        rw [Nat.mod_eq_of_lt hi'] at e0
        unfold gx gy at *
        rw [e0, e1]
        exact h0
      rw [hr] at h3
      have := Nat.eq_of_beq_eq_true h3
      omega

end Go.Proofs.Ytanagdlikoinaaa
