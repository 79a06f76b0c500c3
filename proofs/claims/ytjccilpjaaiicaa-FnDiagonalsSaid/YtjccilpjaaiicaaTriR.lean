/-
  Triangles fill every room that may be drawn; where no corner sticks in, all corners lie left of all walls. No program in sight.
-/
import Derived.Test.YtjccilpjaaiicaaTriK0
import Derived.Test.YtjccilpjaaiicaaTriK1
import Derived.Test.YtjccilpjaaiicaaTriK2
import Derived.Test.YtjccilpjaaiicaaTriK3
import Derived.Test.YtjccilpjaaiicaaTriK4
import Derived.Test.YtjccilpjaaiicaaTriK5
import Derived.Test.YtjccilpjaaiicaaTriK6
import Derived.Test.YtjccilpjaaiicaaTriK7
namespace Go.Proofs.Ytjccilpjaaiicaa
namespace Jor

theorem good_reach {s j : Nat} {l : List P} (hs : s < 8) (hj : j ≤ 3) (h : Reach s j l) : Good s l := by
  have hr := h.room hs
  have hl := h.len
  have key : badB l = true ∨ Good s l → Good s l := fun hh => by
    rcases hh with hh | hh
    · rw [bad_room hh] at hr
      cases hr
    · exact hh
  match s, hs with
  | 0, _ => exact key (tst0_sound hl (h.test hj tst0 triK0))
  | 1, _ => exact key (tst1_sound hl (h.test hj tst1 triK1))
  | 2, _ => exact key (tst2_sound hl (h.test hj tst2 triK2))
  | 3, _ => exact key (tst3_sound hl (h.test hj tst3 triK3))
  | 4, _ => exact key (tst4_sound hl (h.test hj tst4 triK4))
  | 5, _ => exact key (tst5_sound hl (h.test hj tst5 triK5))
  | 6, _ => exact key (tst6_sound hl (h.test hj tst6 triK6))
  | 7, _ => exact key (tst7_sound hl (h.test hj tst7 triK7))
  | n + 8, hs => exact absurd hs (by omega)

def rotT (n m : Nat) (t : T3) : T3 := ((t.1 + n - m) % n, (t.2.1 + n - m) % n, (t.2.2 + n - m) % n)
set_option maxRecDepth 1000000 in
theorem certAll : ((List.range 8).all fun s => (cands s).all fun ts => ts.all (fun t => decide (t.1 < (shp s).length) && (decide (t.2.1 < (shp s).length) && decide (t.2.2 < (shp s).length))) && (List.range (shp s).length).all fun m => certB (shp s).length (ts.map (rotT (shp s).length m))) = true := by decide +kernel
set_option maxRecDepth 1000000 in
theorem rxsAll : ((List.range 8).all fun s => (rxs s).all fun t => decide (t.1 < (shp s).length) && (t.2.1 == (t.1 + 1) % (shp s).length && t.2.2 == (t.1 + 2) % (shp s).length)) = true := by decide +kernel
set_option maxRecDepth 1000000 in
theorem hxsAll : ((List.range 8).all fun s => !flatS s || (List.range (shp s).length).all fun i => (List.range (shp s).length).all fun k => k == i || (k == (i + 1) % (shp s).length || (hxs s).contains (i, (i + 1) % (shp s).length, k))) = true := by decide +kernel

theorem posB_iff {l : List P} {t : T3} : posB l t = true ↔ posT l t := ps_iff _
section
variable {l : List P} {m t : Nat} {dx : Int} (hm : m < l.length)
include hm
theorem pt_drawn {i : Nat} (hi : i < l.length) : pt ((startL l m).map (trn t dx)) i = trn t dx (pt l ((m + i) % l.length)) := by
  have hi' : i < (startL l m).length := by rw [startL_length]; exact hi
  have e1 := gx_map (t := t) (dx := dx) hi'
  have e2 := gy_map (t := t) (dx := dx) hi'
  rw [gx_start hm hi, gy_start hm hi] at e1 e2
  exact Prod.ext e1 e2
theorem tu_drawn {i j k : Nat} (hi : i < l.length) (hj : j < l.length) (hk : k < l.length) : tu (pt ((startL l m).map (trn t dx)) i) (pt ((startL l m).map (trn t dx)) j) (pt ((startL l m).map (trn t dx)) k) = tu (pt l ((m + i) % l.length)) (pt l ((m + j) % l.length)) (pt l ((m + k) % l.length)) := by
  rw [pt_drawn hm hi, pt_drawn hm hj, pt_drawn hm hk]
  exact trn_turn _ _ _
theorem unrot {i : Nat} (hi : i < l.length) : (m + (i + l.length - m) % l.length) % l.length = i := by
  rw [Nat.add_mod_mod, show m + (i + l.length - m) = i + l.length by omega, Nat.add_mod_right, Nat.mod_eq_of_lt hi]
end
theorem drawn_trg {L : List P} (hD : Drawn L) : roomB L = true ∧ ∃ ts, Cert L.length ts ∧ Trg (hv L) L.length ts := by
  have hR := hD.facts.1
  refine ⟨hR, ?_⟩
  obtain ⟨s, j, t, m, l, dx, hs, hj, hre, ht, hm, hd, rfl⟩ := hD
  have hg := (good_reach hs hj hre).1
  have hl := hre.len
  rw [List.any_eq_true] at hg
  obtain ⟨ts, hts, hp⟩ := hg
  have hc := List.all_eq_true.1 (List.all_eq_true.1 certAll s (List.mem_range.2 hs)) ts hts
  rw [Bool.and_eq_true, ← hl] at hc
  obtain ⟨hc1, hc2⟩ := hc
  have hcert := cert_of (List.all_eq_true.1 hc2 m (List.mem_range.2 hm))
  have hn : ((startL l m).map (trn t dx)).length = l.length := by rw [List.length_map, startL_length]
  rw [← hn] at hcert
  refine ⟨_, hcert, trg_room hR hcert ?_⟩
  intro u hu
  rw [hn] at hu
  obtain ⟨w, hw, rfl⟩ := List.mem_map.1 hu
  have hw2 := List.all_eq_true.1 hc1 w hw
  simp only [Bool.and_eq_true, decide_eq_true_eq] at hw2
  have hpw := posB_iff.1 (List.all_eq_true.1 hp w hw)
  have h0 : 0 < l.length := by omega
  unfold posT rotT
  simp only
  rw [tu_drawn hm (Nat.mod_lt _ h0) (Nat.mod_lt _ h0) (Nat.mod_lt _ h0), unrot hm hw2.1, unrot hm hw2.2.1, unrot hm hw2.2.2]
  exact hpw
theorem tz_tu (L : List P) (i : Nat) : tz L i = tu (pt L i) (pt L (nx L.length i)) (pt L ((i + 2) % L.length)) := rfl
theorem negB_iff {l : List P} {t : T3} : negB l t = true ↔ tu (pt l t.1) (pt l t.2.1) (pt l t.2.2) < 0 := neg_iff _
/-- where no corner sticks in, all corners lie left of all walls -/
theorem drawn_convex {L : List P} (hD : Drawn L) (hc : ∀ i, i < L.length → ¬ tz L i < 0) : ∀ i k, i < L.length → k < L.length → 0 ≤ tu (pt L i) (pt L (nx L.length i)) (pt L k) := by
  obtain ⟨s, j, t, m, l, dx, hs, hj, hre, ht, hm, hd, rfl⟩ := hD
  have hg := (good_reach hs hj hre).2
  have hl := hre.len
  have h0 : 0 < l.length := by omega
  have hn : ((startL l m).map (trn t dx)).length = l.length := by rw [List.length_map, startL_length]
  rw [hn] at hc ⊢
  rw [Bool.or_eq_true, List.any_eq_true] at hg
  rcases hg with ⟨w, hw, hneg⟩ | hg
  · exfalso
    have hw2 := List.all_eq_true.1 (List.all_eq_true.1 rxsAll s (List.mem_range.2 hs)) w hw
    simp only [Bool.and_eq_true, decide_eq_true_eq, beq_iff_eq, ← hl] at hw2
    obtain ⟨w1, w2, w3⟩ := hw2
    rw [negB_iff, w2, w3] at hneg
    refine hc ((w.1 + l.length - m) % l.length) (Nat.mod_lt _ h0) ?_
    rw [tz_tu, hn, tu_drawn hm (Nat.mod_lt _ h0) (nx_lt h0) (Nat.mod_lt _ h0)]
    have e1 : (m + nx l.length ((w.1 + l.length - m) % l.length)) % l.length = (w.1 + 1) % l.length := by
      unfold nx
      rw [shift_mod, unrot hm w1]
    have e2 : (m + ((w.1 + l.length - m) % l.length + 2) % l.length) % l.length = (w.1 + 2) % l.length := by
      rw [shift_mod, unrot hm w1]
    rw [e1, e2, unrot hm w1]
    exact hneg
  · rw [Bool.and_eq_true] at hg
    obtain ⟨hf, hh⟩ := hg
    have hx := List.all_eq_true.1 hxsAll s (List.mem_range.2 hs)
    rw [hf] at hx
    simp only [Bool.not_true, Bool.false_or, List.all_eq_true, List.mem_range, Bool.or_eq_true, beq_iff_eq, List.contains_iff_mem, ← hl] at hx
    intro i k hi hk
    rw [tu_drawn hm hi (nx_lt h0) hk]
    have e1 : (m + nx l.length i) % l.length = ((m + i) % l.length + 1) % l.length := by
      unfold nx
      rw [shift_mod]
    rw [e1]
    have hi' : (m + i) % l.length < l.length := Nat.mod_lt _ h0
    have hk' : (m + k) % l.length < l.length := Nat.mod_lt _ h0
    rcases hx _ hi' _ hk' with e | e | e
    · rw [e, tu_fst]
      exact Int.le_refl _
    · rw [e, tu_snd]
      exact Int.le_refl _
    · have h1 := List.all_eq_true.1 hh _ e
      rw [Bool.not_eq_true', Bool.eq_false_iff, ne_eq, negB_iff] at h1
      simp only at h1
      omega

end Jor
end Go.Proofs.Ytjccilpjaaiicaa
