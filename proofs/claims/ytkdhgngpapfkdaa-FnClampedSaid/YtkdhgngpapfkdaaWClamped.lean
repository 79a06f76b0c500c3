/- The walk of FnClamped. -/
import Derived.Test.YtkdhgngpapfkdaaDraw2
import Derived.Test.YtkdhgngpapfkdaaClamp
namespace Go.Proofs.Ytkdhgngpapfkdaa
open Go.RowKit

/-- what a fresh cursor knows of its bytes -/
theorem rb_ne {w : World} {B : Option Addr} {n : Nat} (h : RB w B n) : 0 < n → ∀ b off, B = some ⟨b, off, none⟩ → b ≠ w.heap.size := fun hn b off e => by
  obtain ⟨b', off', e', h1, _⟩ := h hn
  rw [e'] at e
  injection e with e
  injection e with e1 _ _
  omega

set_option maxRecDepth 100000 in
set_option maxHeartbeats 1600000 in
theorem DrawClamp_any (B : Option Addr) (n c : Nat) (w : World) (hb : RB w B n) (hn : n ≤ 1048576) :
    Calls Try.prog 11 #[.slice B n c] w fun e w' => ∃ x y z : Int, e = .returned (.tuple #[.int .i64 x, .int .i64 y, .int .i64 z]) ∧ Below w.heap.size w w' := by
  have hne := rb_ne hb
  go_enter Try.func11, Try.ntmps11
  go_wp2_with fail
  refine (l01New_any B n c w hb hn).mono ?_
  rintro e w1 ⟨rfl, hc1, x1⟩
  have hb1 := hb.ext x1
  have hlt := hc1.lt
  go_wp2_with fail
  refine (l01Once_any w.heap.size B n c 4 _ hc1 hb1 hn hne (by omega) (by omega)).mono ?_
  rintro e w2 ⟨bo, rfl, hc2, o2⟩
  have hb2 := hb1.only o2 hne
  cases bo
  · go_wp2_with fail
    refine (l01Below_any w.heap.size B n c 40 _ hc2 hb2 hn hne (by omega) (by omega)).mono ?_
    rintro e w3 ⟨a, ha, rfl, hc3, o3⟩
    have hb3 := hb2.only o3 hne
    go_wp2_with fail
    refine (l01Below_any w.heap.size B n c 80 _ hc3 hb3 hn hne (by omega) (by omega)).mono ?_
    rintro e w4 ⟨p, hp, rfl, hc4, o4⟩
    have hb4 := hb3.only o4 hne
    go_wp2_with fail
    refine (l01Below_any w.heap.size B n c 30 _ hc4 hb4 hn hne (by omega) (by omega)).mono ?_
    rintro e w5 ⟨q, hq, rfl, hc5, o5⟩
    go_wp2
    exact bodyPost_ret (v := .tuple #[.int .i64 (p - 40), .int .i64 (a - 20), .int .i64 (a - 20 + q - 3)]) (by simp [results, Try.results11, go_sem]) rfl ⟨_, _, _, rfl, Below.trans x1.below ((((o2.trans o3).trans o4).trans o5).below (Nat.le_refl _) x1.size)⟩
  · go_wp2_with fail
    refine (l01Number_any w.heap.size B n c _ hc2 hb2 hn hne).mono ?_
    rintro e w3 ⟨a, ha, rfl, hc3, o3⟩
    have hb3 := hb2.only o3 hne
    go_wp2_with fail
    refine (l01Number_any w.heap.size B n c _ hc3 hb3 hn hne).mono ?_
    rintro e w4 ⟨p, hp, rfl, hc4, o4⟩
    have hb4 := hb3.only o4 hne
    go_wp2_with fail
    refine (l01Number_any w.heap.size B n c _ hc4 hb4 hn hne).mono ?_
    rintro e w5 ⟨q, hq, rfl, hc5, o5⟩
    go_wp2
    exact bodyPost_ret (v := .tuple #[.int .i64 a, .int .i64 p, .int .i64 q]) (by simp [results, Try.results11, go_sem]) rfl ⟨_, _, _, rfl, Below.trans x1.below ((((o2.trans o3).trans o4).trans o5).below (Nat.le_refl _) x1.size)⟩

theorem Clamp_at (n lo hi v : Int) (w : World) (hv : clampV n lo hi = v) :
    Calls Try.prog 12 #[.int .i64 n, .int .i64 lo, .int .i64 hi] w fun e w' => e = .returned (.int .i64 v) ∧ w = w' := by
  subst hv
  exact Clamp_any n lo hi w

set_option maxRecDepth 100000 in
set_option maxHeartbeats 1600000 in
theorem clamped_walk (B : Option Addr) (n c : Nat) (w : World) (hb : RB w B n) :
    Calls Try.prog 4 #[.slice B n c] w fun e w' => e = .returned (.bool true) ∧ Below w.heap.size w w' := by
  by_cases hbig : (1048576 : Int) < (n : Int)
  · go_enter Try.func4, Try.ntmps4
    go_wp2_with (go_at_call 10; refine (big_any _ _ _ _).mono ?_; rintro e w1 ⟨rfl, rfl⟩)
    go_ret
    exact ⟨rfl, Below.refl _ _⟩
  · have hn : n ≤ 1048576 := by omega
    go_enter Try.func4, Try.ntmps4
    go_wp2_with (go_at_call 10; refine (big_any _ _ _ _).mono ?_; rintro e w1 ⟨rfl, rfl⟩)
    refine (DrawClamp_any B n c w hb hn).mono ?_
    rintro e w1 ⟨x, lo, hi, rfl, hx1⟩
    obtain ⟨v, hv⟩ : ∃ v, clampV x lo hi = v := ⟨_, rfl⟩
    have h735 : clampV 7 3 5 = 5 := by decide
    by_cases h1 : hi < lo
    · have e1 : v = lo := by rw [← hv]; unfold clampV; rw [if_pos (.inl h1)]
      subst e1
      go_wp2_with (first | (go_at_call 12; refine (Clamp_at _ _ _ _ _ (by first | exact hv | exact h735)).mono ?_; rintro e w2 ⟨rfl, rfl⟩))
      go_ret
      exact ⟨rfl, hx1⟩
    · have r1 : lo ≤ v := by rw [← hv]; unfold clampV; (repeat' split) <;> omega
      have r2 : v ≤ hi := by rw [← hv]; unfold clampV; (repeat' split) <;> omega
      have r3 : clampV v lo hi = v := by unfold clampV; rw [if_neg (by omega), if_neg (by omega)]
      have r4 : ¬ x < lo → ¬ hi < x → v = x := fun h2 h3 => by rw [← hv]; unfold clampV; rw [if_neg (by omega), if_neg h3]
      have R4 := hide r4
      clear r4
      by_cases h2 : x < lo
      · go_wp2_with (first | (go_at_call 12; refine (Clamp_at _ _ _ _ _ (by first | exact hv | exact r3 | exact h735)).mono ?_; rintro e w2 ⟨rfl, rfl⟩))
        go_ret
        exact ⟨rfl, hx1⟩
      · by_cases h3 : hi < x
        · go_wp2_with (first | (go_at_call 12; refine (Clamp_at _ _ _ _ _ (by first | exact hv | exact r3 | exact h735)).mono ?_; rintro e w2 ⟨rfl, rfl⟩))
          go_ret
          exact ⟨rfl, hx1⟩
        · have e4 := R4.out h2 h3
          subst e4
          go_wp2_with (first | (go_at_call 12; refine (Clamp_at _ _ _ _ _ (by first | exact hv | exact r3 | exact h735)).mono ?_; rintro e w2 ⟨rfl, rfl⟩))
          go_ret
          exact ⟨rfl, hx1⟩

end Go.Proofs.Ytkdhgngpapfkdaa
