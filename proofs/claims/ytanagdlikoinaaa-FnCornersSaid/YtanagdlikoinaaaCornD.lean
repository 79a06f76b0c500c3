/-
  The corners of a drawn room: at least three stick out, the lowest one does, and four more than stick in where all walls run along the axes. No program in sight.
-/
import Derived.Test.YtanagdlikoinaaaCornK0
import Derived.Test.YtanagdlikoinaaaCornK1
import Derived.Test.YtanagdlikoinaaaCornK2
import Derived.Test.YtanagdlikoinaaaCornK3
import Derived.Test.YtanagdlikoinaaaCornK4
import Derived.Test.YtanagdlikoinaaaCornK5
import Derived.Test.YtanagdlikoinaaaCornK6
import Derived.Test.YtanagdlikoinaaaCornK7
import Derived.Test.YtanagdlikoinaaaLow
import Derived.Test.YtanagdlikoinaaaRect
import Derived.Test.YtanagdlikoinaaaRefl
namespace Go.Proofs.Ytanagdlikoinaaa
open Go.RowKit

theorem cornK : ∀ s, s < 8 → chk (shp s) 3 cornT = true
  | 0, _ => cornK0
  | 1, _ => cornK1
  | 2, _ => cornK2
  | 3, _ => cornK3
  | 4, _ => cornK4
  | 5, _ => cornK5
  | 6, _ => cornK6
  | 7, _ => cornK7
  | n + 8, h => absurd h (by omega)

theorem countP_sm (f : Nat → Bool) : ∀ n, ((List.range n).countP f : Int) = sm (fun i => if f i = true then 1 else 0) n
  | 0 => rfl
  | n + 1 => by
    rw [List.range_succ, List.countP_append, sm, ← countP_sm f n]
    cases h : f n <;> simp [h]
theorem lowB_iff (l : List (Int × Int)) (k m : Nat) : lowB l k m = true ↔ gy l k < gy l m ∨ (gy l k = gy l m ∧ gx l k < gx l m) := by simp [lowB]
theorem lowTo_min (l : List (Int × Int)) : ∀ k j, j < k → lowB l j (lowTo l k) = false
  | k + 1, j, hj => by
    rw [lowTo_succ]
    cases h : lowB l k (lowTo l k)
    · rw [if_neg (by simp)]
      by_cases e : j = k
      · subst e; exact h
      · exact lowTo_min l k j (by omega)
    · rw [if_pos rfl]
      by_cases e : j = k
      · subst e; exact lowB_self l j
      · have ih := lowTo_min l k j (by omega)
        rw [Bool.eq_false_iff, ne_eq, lowB_iff] at ih ⊢
        rw [lowB_iff] at h
        omega

theorem turnAt_tn {l : List (Int × Int)} {k : Nat} (hk : k < l.length) : turnAt l k = tn l ((k + l.length - 1) % l.length) := by
  have h0 : 0 < l.length := by omega
  have e1 : nx l ((k + l.length - 1) % l.length) = k := by
    unfold nx
    rw [Nat.mod_add_mod, show k + l.length - 1 + 1 = k + l.length by omega, Nat.add_mod_right, Nat.mod_eq_of_lt hk]
  have e2 : ((k + l.length - 1) % l.length + 2) % l.length = (k + 1) % l.length := by
    rw [Nat.mod_add_mod, show k + l.length - 1 + 2 = k + 1 + l.length by omega, Nat.add_mod_right]
  unfold turnAt tn
  rw [e1, e2]

/-- what the statement asks of a drawn room's corners -/
theorem corners_plain {L : List (Int × Int)} (hD : Drawn L) : roomB L = true ∧ (reflL L L.length).length + 3 ≤ L.length ∧ reflB L (lowTo L L.length) = false ∧ (isRectV L = true → L.length = 2 * (reflL L L.length).length + 4) := by
  have hR := hD.facts.1
  obtain ⟨s, j, t, m, l, dx, hs, hj, hre, ht, hm, hd, rfl⟩ := hD
  have hl := hre.room hs
  obtain ⟨hf, h3⟩ := roomB_fine hl
  have h10 := hf.2
  have h0 : 0 < l.length := by omega
  have hb := hre.bd
  have hb2 : ∀ i, i < (startL l m).length → Both t dx (gx (startL l m) i, gy (startL l m) i) := fun i hi => both_small (by have := hb _ (mem_start.1 (g_mem' hi)); simp only at this ⊢; omega) hd
  have hT := hre.test hj cornT (cornK s hs)
  have hg : goodB l = true := by
    unfold cornT at hT
    cases h : goodB l
    · rw [h] at hT
      rw [bad_room hT] at hl
      cases hl
    · rfl
  obtain ⟨g1, g2, g3⟩ := good_sound h10 hg
  have hn : ((startL l m).map (trn t dx)).length = l.length := by rw [List.length_map, startL_length]
  have htn : ∀ i, i < l.length → tn ((startL l m).map (trn t dx)) i = tz l ((m + i) % l.length) := fun i hi => by
    rw [tn_map hb2 (by rw [startL_length]; exact hi), tn_start hm hi, tn_tz hf (Nat.mod_lt _ h0)]
  have hrf : ∀ k, k < l.length → reflB ((startL l m).map (trn t dx)) k = neg (tz l ((m + (k + l.length - 1) % l.length) % l.length)) := fun k hk => by
    unfold reflB
    rw [turnAt_tn (by rw [hn]; exact hk), hn, htn _ (Nat.mod_lt _ h0), Bool.eq_iff_iff, decide_eq_true_eq, neg_iff]
  have hcnt : (reflL ((startL l m).map (trn t dx)) l.length).length = rcount l := by
    have e1 : (reflL ((startL l m).map (trn t dx)) l.length).length = (List.range l.length).countP (reflB ((startL l m).map (trn t dx))) := by
      unfold reflL
      rw [List.length_map, List.countP_eq_length_filter]
    have e2 := countP_sm (reflB ((startL l m).map (trn t dx))) l.length
    have e3 := countP_sm (fun i => neg (tz l i)) l.length
    have e4 := sm_rot (fun i => if neg (tz l i) = true then 1 else 0) hm
    have e5 := sm_rot (fun i => if neg (tz l ((m + i) % l.length)) = true then 1 else 0) (show l.length - 1 < l.length by omega)
    have e6 : sm (fun i => if reflB ((startL l m).map (trn t dx)) i = true then 1 else 0) l.length = sm (fun i => if neg (tz l ((m + (l.length - 1 + i) % l.length) % l.length)) = true then 1 else 0) l.length := sm_congr _ _ _ fun i hi => by
      rw [hrf i hi, show i + l.length - 1 = l.length - 1 + i by omega]
    have e7 : (List.range l.length).countP (fun i => neg (tz l i)) = rcount l := rfl
    omega
  rw [hn, hcnt]
  refine ⟨hR, g1, ?_, fun hr => g3 ?_⟩
  · have hk : lowTo ((startL l m).map (trn t dx)) l.length < l.length := lowTo_lt _ _ h0
    obtain ⟨k, hkk⟩ : ∃ k, k = lowTo ((startL l m).map (trn t dx)) l.length := ⟨_, rfl⟩
    have hmin := lowTo_min ((startL l m).map (trn t dx)) l.length
    rw [← hkk] at hk hmin ⊢
    rw [Bool.eq_false_iff]
    intro hx
    rw [hrf k hk, neg_iff] at hx
    have hi0 : (m + (k + l.length - 1) % l.length) % l.length < l.length := Nat.mod_lt _ h0
    have hex := g2 _ hi0 hx
    have hnx : nx l ((m + (k + l.length - 1) % l.length) % l.length) = (m + k) % l.length := by
      unfold nx
      rw [Nat.mod_add_mod, Nat.add_assoc, ← Nat.add_mod_mod, Nat.mod_add_mod, show k + l.length - 1 + 1 = k + l.length by omega, Nat.add_mod_right, Nat.add_mod_mod]
    rw [hnx] at hex
    have hks : k < (startL l m).length := by rw [startL_length]; exact hk
    -- a corner that is lower
    have key : ∃ q, q ∈ l ∧ ((trn t dx q).2 < (trn t dx (pt l ((m + k) % l.length))).2 ∨ ((trn t dx q).2 = (trn t dx (pt l ((m + k) % l.length))).2 ∧ (trn t dx q).1 < (trn t dx (pt l ((m + k) % l.length))).1)) := by
      unfold exts at hex
      simp only [Bool.and_eq_true, List.any_eq_true] at hex
      obtain ⟨⟨q0, m0, l0⟩, ⟨q1, m1, l1⟩, ⟨q2, m2, l2⟩⟩ := hex
      simp only [low0, low1, low2, Bool.or_eq_true, Bool.and_eq_true, Bool.not_eq_true', neg_iff, Bool.eq_false_iff, ne_eq] at l0 l1 l2
      unfold trn
      by_cases e1 : t = 1
      · refine ⟨q1, m1, ?_⟩
        rw [if_pos e1, if_pos e1]
        simp only
        omega
      · by_cases e2 : t = 2
        · refine ⟨q2, m2, ?_⟩
          rw [if_neg e1, if_neg e1, if_pos e2, if_pos e2]
          simp only
          omega
        · refine ⟨q0, m0, ?_⟩
          rw [if_neg e1, if_neg e1, if_neg e2, if_neg e2]
          simp only
          omega
    obtain ⟨q, hq, hlow⟩ := key
    have hq2 : q ∈ startL l m := mem_start.2 hq
    obtain ⟨i, hi, rfl⟩ := List.getElem_of_mem hq2
    have hi' : i < l.length := by rw [startL_length] at hi; exact hi
    have ei : (startL l m)[i] = (gx (startL l m) i, gy (startL l m) i) := by
      have e2 : (gx (startL l m) i, gy (startL l m) i) = (startL l m).getD i (0, 0) := rfl
      rw [e2, List.getD_eq_getElem?_getD, List.getElem?_eq_getElem hi]
      rfl
    have ek : pt l ((m + k) % l.length) = (gx (startL l m) k, gy (startL l m) k) := by
      unfold pt
      rw [gx_start hm hk, gy_start hm hk]
    have hf2 := hmin i hi'
    rw [Bool.eq_false_iff, ne_eq, lowB_iff, gx_map hi, gy_map hi, gx_map hks, gy_map hks] at hf2
    rw [ei, ek] at hlow
    exact hf2 hlow
  · have hsk : ∀ k, k < l.length → skewB ((startL l m).map (trn t dx)) k = false := fun k hk => by
      cases h : skewB ((startL l m).map (trn t dx)) k
      · rfl
      · rw [isRect_some (by rw [hn]; exact hk) h] at hr
        cases hr
    intro i hi
    obtain ⟨k, hk, rfl⟩ : ∃ k, k < l.length ∧ i = (m + k) % l.length := by
      refine ⟨(i + l.length - m) % l.length, Nat.mod_lt _ h0, ?_⟩
      rw [Nat.add_mod_mod, show m + (i + l.length - m) = i + l.length by omega, Nat.add_mod_right, Nat.mod_eq_of_lt hi]
    have h1 := hsk k hk
    have hks : k < (startL l m).length := by rw [startL_length]; exact hk
    have hkn : nx (startL l m) k < (startL l m).length := nx_lt hks
    unfold skewB at h1
    rw [nx_map, gx_map hks, gy_map hks, gx_map hkn, gy_map hkn, Bool.and_eq_false_iff, bne_eq_false_iff_eq, bne_eq_false_iff_eq] at h1
    have e1 : gx (startL l m) (nx (startL l m) k) = gx l (nx l ((m + k) % l.length)) ∧ gy (startL l m) (nx (startL l m) k) = gy l (nx l ((m + k) % l.length)) := by
      rw [nx_start, gx_start hm (Nat.mod_lt _ h0), gy_start hm (Nat.mod_lt _ h0), shift_mod]
      exact ⟨rfl, rfl⟩
    rw [e1.1, e1.2, gx_start hm hk, gy_start hm hk] at h1
    unfold trn at h1
    by_cases e1 : t = 1
    · rw [if_pos e1, if_pos e1] at h1
      simp only at h1
      omega
    · by_cases e2 : t = 2
      · rw [if_neg e1, if_neg e1, if_pos e2, if_pos e2] at h1
        simp only at h1
        omega
      · rw [if_neg e1, if_neg e1, if_neg e2, if_neg e2] at h1
        simp only at h1
        omega

end Go.Proofs.Ytanagdlikoinaaa
