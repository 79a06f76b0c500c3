/-
  A room is a simple polygon; triangles of its corners that fill it. No program in sight.
-/
import Derived.Test.YtanagdlikoinaaaTriD
import Derived.Test.YtanagdlikoinaaaSightL
namespace Go.Proofs.Ytanagdlikoinaaa
namespace Jor

/-- a height that no two points of the plane at hand share -/
def MM : Int := 1000000000
/-- the corners, with heights that differ -/
def hv (l : List P) (i : Nat) : P := hm MM (pt l i)
theorem room_bd {l : List P} (hr : roomB l = true) {i : Nat} (hi : i < l.length) : (-40 ≤ (pt l i).1 ∧ (pt l i).1 ≤ 40) ∧ (-40 ≤ (pt l i).2 ∧ (pt l i).2 ≤ 40) := (roomB_fine hr).1.bd hi
theorem pt_ne {l : List P} (hr : roomB l = true) {i k : Nat} (hi : i < l.length) (hk : k < l.length) (h : i ≠ k) : pt l i ≠ pt l k := fun e => h (by
  have hn := room_nodup hr
  refine nodup_getD (d := (0, 0)) hn hi hk ?_
  have e1 : ∀ i, pt l i = l.getD i (0, 0) := fun i => rfl
  rw [← e1, ← e1]
  exact e)
theorem nr_room {l : List P} (hr : roomB l = true) {i k : Nat} (hi : i < l.length) (hk : k < l.length) : Nr MM (pt l i) (pt l k) := by
  have h1 := room_bd hr hi
  have h2 := room_bd hr hk
  unfold Nr MM
  omega
theorem hm_ne {M : Int} {a b : P} (_ : 0 < M) (hn : Nr M a b) (h : a ≠ b) : (hm M a).2 ≠ (hm M b).2 := by
  intro e
  have h1 := hm_lt (M := M) hn.1 hn.2
  have h2 := hm_lt (M := M) hn.2 hn.1
  apply h
  apply Prod.ext <;> omega
theorem room_off {l : List P} (hr : roomB l = true) {i k : Nat} (hi : i < l.length) (hk : k < l.length) (h1 : k ≠ i) (h2 : k ≠ nx l.length i) : onZB (pt l k) (pt l i) (pt l (nx l.length i)) = false := by
  by_cases h3 : nx l.length k = i
  · have ht := (room_z hr).2.1 k hk
    have e2 : (k + 2) % l.length = nx l.length i := by
      rw [← h3]
      unfold nx
      rw [Nat.mod_add_mod]
    have e1 : Go.Proofs.Ytanagdlikoinaaa.nx l k = i := h3
    unfold tz at ht
    rw [e1, e2] at ht
    have e3 : turnZ (pt l i).1 (pt l i).2 (pt l (nx l.length i)).1 (pt l (nx l.length i)).2 (pt l k).1 (pt l k).2 = turnZ (gx l k) (gy l k) (gx l i) (gy l i) (gx l (nx l.length i)) (gy l (nx l.length i)) := tu_rot (pt l k) (pt l i) (pt l (nx l.length i))
    unfold onZB
    rw [e3]
    simp [ht]
  · exact (room_apart hr hi hk h1 h2.symm h3).2.2.2.1
theorem not_crs_of {a b c d : P} (h : crossZ a b c d = false) : ¬ Crs a b c d := by
  rintro ⟨h1, h2⟩
  have e : crossZ a b c d = true := by
    unfold crossZ
    have e1 : turnZ a.1 a.2 b.1 b.2 c.1 c.2 = tu a b c := rfl
    have e2 : turnZ a.1 a.2 b.1 b.2 d.1 d.2 = tu a b d := rfl
    have e3 : turnZ c.1 c.2 d.1 d.2 a.1 a.2 = tu c d a := rfl
    have e4 : turnZ c.1 c.2 d.1 d.2 b.1 b.2 = tu c d b := rfl
    rw [e1, e2, e3, e4, Bool.and_eq_true, decide_eq_true_eq, decide_eq_true_eq]
    have k : ∀ x y : Int, (x < 0 ∧ 0 < y) ∨ (0 < x ∧ y < 0) → sgn x * sgn y < 0 := fun x y hh => by
      unfold sgn
      rcases hh with ⟨g1, g2⟩ | ⟨g1, g2⟩
      · rw [if_neg (by omega), if_pos g1, if_pos g2]; decide
      · rw [if_pos g1, if_neg (by omega), if_pos g2]; decide
    exact ⟨k _ _ h1, k _ _ h2⟩
  rw [h] at e
  cases e
theorem crs_hm {M : Int} (hM : 0 < M) {a b c d : P} (h : ¬ Crs a b c d) : ¬ Crs (hm M a) (hm M b) (hm M c) (hm M d) := by
  intro hh
  apply h
  unfold Crs at hh ⊢
  simpa only [hm_neg hM, hm_pos hM] using hh
theorem crs_self {a b c d : P} (h : a = c ∨ a = d ∨ b = c ∨ b = d) : ¬ Crs a b c d := by
  rintro ⟨h1, h2⟩
  rcases h with rfl | rfl | rfl | rfl
  · rw [tu_fst] at h1; omega
  · rw [tu_snd] at h1; omega
  · rw [tu_fst] at h1; omega
  · rw [tu_snd] at h1; omega
theorem simple_room {l : List P} (hr : roomB l = true) : Simple (hv l) l.length := by
  refine ⟨(room_z hr).1.1, fun i k hi hk hne => hm_ne (by decide) (nr_room hr hi hk) (pt_ne hr hi hk hne), fun i k hi hk h1 h2 => off_hm (by decide) (nr_room hr hi hk) (nr_room hr (nx_lt (by omega)) hk) (room_off hr hi hk h1 h2), fun i k hi hk => ?_⟩
  refine crs_hm (by decide) ?_
  by_cases h1 : k = i
  · exact crs_self (.inl (by rw [h1]))
  · by_cases h2 : nx l.length i = k
    · exact crs_self (.inr (.inr (.inl (by rw [h2]))))
    · by_cases h3 : nx l.length k = i
      · exact crs_self (.inr (.inl (by rw [h3])))
      · exact not_crs_of (room_apart hr hi hk h1 h2 h3).1
theorem bd_room {l : List P} (hr : roomB l = true) : ∃ B : Int, 0 ≤ B ∧ ∀ i, i < l.length → Bd B (hv l i) (hv l (nx l.length i)) := by
  refine ⟨100 * MM, by decide, fun i hi => ?_⟩
  have h1 := room_bd hr hi
  have h2 := room_bd hr (nx_lt (n := l.length) (i := i) (by omega))
  unfold Bd hv hm MM
  simp only
  omega
/-- triangles of a room's corners -/
def posT (l : List P) (t : T3) : Prop := 0 < tu (pt l t.1) (pt l t.2.1) (pt l t.2.2)
theorem trg_room {l : List P} (hr : roomB l = true) {ts : List T3} (hc : Cert l.length ts) (hp : ∀ t, t ∈ ts → posT l t) : Trg (hv l) l.length ts :=
  ⟨simple_room hr, hc, fun t ht => (hm_pos (by decide) _ _ _).2 (hp t ht), bd_room hr⟩

end Jor
end Go.Proofs.Ytanagdlikoinaaa
