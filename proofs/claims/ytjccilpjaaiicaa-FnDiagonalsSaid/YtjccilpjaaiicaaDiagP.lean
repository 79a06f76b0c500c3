/-
  Contracts: diagonals (the program's neighbors, diagonal, IsDiagonal).
-/
import Derived.Test.YtjccilpjaaiicaaJ5
import Derived.Test.YtjccilpjaaiicaaSeesP
namespace Go.Proofs.Ytjccilpjaaiicaa
open Go.RowKit

theorem mod_eq_cast (l : List (Int × Int)) (i k : Nat) : (((i : Int) + 1) % (l.length : Int) == (k : Int)) = ((i + 1) % l.length == k) := by
  have e : ((i : Int) + 1) % (l.length : Int) = (((i + 1) % l.length : Nat) : Int) := by rw [Int.natCast_emod]; rfl
  rw [e, Bool.eq_iff_iff]
  simp only [beq_iff_eq]
  omega
theorem nat_eq_cast (i k : Nat) : ((i : Int) == (k : Int)) = (i == k) := by
  rw [Bool.eq_iff_iff]
  simp only [beq_iff_eq]
  omega

theorem neighbors_any (A : Option Addr) (l : List (Int × Int)) (c i k : Nat) (w : World) (hn : l.length ≤ 1048576) (hi : i < l.length) (hk : k < l.length) :
    Calls Try.prog 49 #[.agg #[.slice A l.length c], .int .i64 i, .int .i64 k] w fun e w' => e = .returned (.bool (nbB l i k)) ∧ Ext w w' := by
  obtain ⟨q1, q2, q3, q4, q5⟩ := idx_facts ((i : Int) + 1) (i + 1) l.length (by omega) (by omega) (by omega)
  obtain ⟨r1, r2, r3, r4, r5⟩ := idx_facts ((k : Int) + 1) (k + 1) l.length (by omega) (by omega) (by omega)
  have m1 := mod_eq_cast l i k
  have m2 := mod_eq_cast l k i
  have q6 : l ≠ [] := fun e => by rw [e] at hi; simp at hi
  unfold nbB
  cases e1 : ((i + 1) % l.length == k)
  · cases e2 : ((k + 1) % l.length == i)
    all_goals
      rw [e1] at m1
      rw [e2] at m2
      go_enter Try.func49, Try.ntmps49
      go_wp2
      go_ret
      exact ⟨rfl, by (repeat (first | exact Ext.refl _ | assumption | apply Ext.alloc | apply Ext.drew | apply Ext.drewN | (refine Ext.trans ?_ (by assumption))))⟩
  · rw [e1] at m1
    go_enter Try.func49, Try.ntmps49
    go_wp2
    go_ret
    exact ⟨rfl, by (repeat (first | exact Ext.refl _ | assumption | apply Ext.alloc | apply Ext.drew | apply Ext.drewN | (refine Ext.trans ?_ (by assumption))))⟩

theorem pair_fst (w : World) (T : TypeId) (x y x' y' : Int) : Two (((w.alloc (.cells #[.int .i64 x, .int .i64 y] T)).alloc (.cells #[.int .i64 x', .int .i64 y'] T)).drew) w.heap.size T x y := by
  have h := Two.new w T x y
  have h2 := h.ext ((Ext.refl _).alloc (.cells #[.int .i64 x', .int .i64 y'] T))
  exact h2
theorem pair_snd (w : World) (T : TypeId) (x y x' y' : Int) : Two (((w.alloc (.cells #[.int .i64 x, .int .i64 y] T)).alloc (.cells #[.int .i64 x', .int .i64 y'] T)).drew) (w.heap.size + 1) T x' y' := by
  have h := Two.new (w.alloc (.cells #[.int .i64 x, .int .i64 y] T)) T x' y'
  have e : (w.alloc (.cells #[.int .i64 x, .int .i64 y] T)).heap.size = w.heap.size + 1 := by simp
  rw [e] at h
  exact h


set_option maxRecDepth 100000 in
set_option maxHeartbeats 8000000 in
theorem diagonal_nat (A : Option Addr) (l : List (Int × Int)) (c m p : Nat) (w : World) (hp : RPts w A l) (hr : roomB l = true) (hm : m < l.length) (hpl : p < l.length) :
    Calls Try.prog 29 #[.agg #[.slice A l.length c], .int .i64 m, .int .i64 p] w fun e w' => e = .returned (.bool (dgN l m p)) ∧ Ext w w' := by
  obtain ⟨hf, h3⟩ := roomB_fine hr
  have h10 := hf.2
  have hn : l.length ≤ 1048576 := by omega
  obtain ⟨b, off, rfl⟩ := hp.some_ (by omega)
  have HR := hide hr
  have HPM := hide (hf.pok hm)
  have HPP := hide (hf.pok hpl)
  clear hf hr
  have i1 : inB (m : Int) 0 ((l.length : Int) - 1) = true := by rw [inB_iff]; omega
  have i2 : inB (p : Int) 0 ((l.length : Int) - 1) = true := by rw [inB_iff]; omega
  have hmp := nat_eq_cast m p
  have HB : Hid (∀ w', Ext (w.alloc (.cells #[.slice (some ⟨b, off, none⟩) l.length c] 26)) w' → w'.cell? ⟨w.heap.size, 0, none⟩ = some (.slice (some ⟨b, off, none⟩) l.length c) ∧ w.heap.size < w'.heap.size) := fun w' hx => by
    and_intros <;> (first | (have hz := hx.size; simp at hz; omega) | ((first | rw [hx.cells _ _ (by first | (simp; done) | (simp; omega))] | rw [hx.frozens _ _ (by first | (simp; done) | (simp; omega))]); (first | (simp [go_sem]; done) | (simp [go_sem, World.cell?_alloc_past]; done) | (simp [go_sem, World.frozen?]; done))))
  cases e0 : (m == p)
  · rw [e0] at hmp
    have HMP := hide e0
    clear e0
    cases e1 : nbB l m p
    · have HNB := hide e1
      go_enter Try.func29, Try.ntmps29
      go_wp2_with (first
        | (go_at_call 33; refine (between_any _ _ _ _).mono ?_; (first | rw [i1] | rw [i2]); rintro e w1 ⟨rfl, rfl⟩)
        | (go_at_call 49; refine (neighbors_any _ _ _ _ _ _ hn hm hpl).mono ?_; rw [e1]; rintro e w4 ⟨rfl, hb4⟩))
      have fb4 := HB.out w4 (by (repeat (first | exact Ext.refl _ | assumption | apply Ext.alloc | apply Ext.drew | apply Ext.drewN | (refine Ext.trans ?_ (by assumption)))))
      obtain ⟨hz, hx0, hy0⟩ := (hp.ext (show Ext w w4 by (repeat (first | exact Ext.refl _ | assumption | apply Ext.alloc | apply Ext.drew | apply Ext.drewN | (refine Ext.trans ?_ (by assumption)))))).cell hm
      obtain ⟨_, hx1, hy1⟩ := (hp.ext (show Ext w w4 by (repeat (first | exact Ext.refl _ | assumption | apply Ext.alloc | apply Ext.drew | apply Ext.drewN | (refine Ext.trans ?_ (by assumption)))))).cell hpl
      have q0 : (m : Int) < (l.length : Int) := by omega
      have q1 : (p : Int) < (l.length : Int) := by omega
      have hne : l ≠ [] := fun e => by rw [e] at hm; simp at hm
      have g1 : b < w4.heap.size + 1 := by omega
      have g2 : b < w4.heap.size + 1 + 1 := by omega
      clear i1 i2 hmp e1
      go_region_held3 (fun w' => w'.cell? ⟨w.heap.size, 0, none⟩ = some (.slice (some ⟨b, off, none⟩) l.length c) ∧ w'.cell? ⟨b, off + m * 2, none⟩ = some (.int .i64 (gx l m)) ∧ w'.cell? ⟨b, off + m * 2 + 1, none⟩ = some (.int .i64 (gy l m)) ∧ w'.cell? ⟨b, off + p * 2, none⟩ = some (.int .i64 (gx l p)) ∧ w'.cell? ⟨b, off + p * 2 + 1, none⟩ = some (.int .i64 (gy l p))) (simp [*, go_sem, World.cell?_alloc_some]) (fail)
      · have k1 := pair_fst w4 28 (gx l m) (gy l m) (gx l p) (gy l p)
        have k2 := pair_snd w4 28 (gx l m) (gy l m) (gx l p) (gy l p)
        have hwd : Ext w4 (((w4.alloc (.cells #[.int .i64 (gx l m), .int .i64 (gy l m)] 28)).alloc (.cells #[.int .i64 (gx l p), .int .i64 (gy l p)] 28)).drew) := by (repeat (first | exact Ext.refl _ | assumption | apply Ext.alloc | apply Ext.drew | apply Ext.drewN | (refine Ext.trans ?_ (by assumption))))
        generalize (((w4.alloc (.cells #[.int .i64 (gx l m), .int .i64 (gy l m)] 28)).alloc (.cells #[.int .i64 (gx l p), .int .i64 (gy l p)] 28)).drew) = wd at k1 k2 hwd ⊢
        have HB8 := hide (show ∀ w', Ext wd w' → (w'.cell? ⟨w4.heap.size, 0, none⟩ = some (.int .i64 (gx l m)) ∧ w'.cell? ⟨w4.heap.size, 1, none⟩ = some (.int .i64 (gy l m)) ∧ w4.heap.size < w'.heap.size) ∧ (w'.cell? ⟨w4.heap.size + 1, 0, none⟩ = some (.int .i64 (gx l p)) ∧ w'.cell? ⟨w4.heap.size + 1, 1, none⟩ = some (.int .i64 (gy l p)) ∧ w4.heap.size + 1 < w'.heap.size) from fun w' hx => ⟨⟨(hx.cells _ _ k1.cells.1).trans k1.cells.2.1, (hx.cells _ _ k1.cells.1).trans k1.cells.2.2.1, Nat.lt_of_lt_of_le k1.cells.1 hx.size⟩, ⟨(hx.cells _ _ k2.cells.1).trans k2.cells.2.1, (hx.cells _ _ k2.cells.1).trans k2.cells.2.2.1, Nat.lt_of_lt_of_le k2.cells.1 hx.size⟩⟩)
        have f8 := HB8.out wd (Ext.refl _)
        have fb := HB.out wd (by (repeat (first | exact Ext.refl _ | assumption | apply Ext.alloc | apply Ext.drew | apply Ext.drewN | (refine Ext.trans ?_ (by assumption)))))
        clear k1 k2 hx0 hy0 hx1 hy1 fb4
        cases hs : seesV l (gx l m) (gy l m) (gx l p) (gy l p)
        all_goals
          have HV := hide (show dgN l m p = (((cuts l (gx l m) (gy l m) (gx l p) (gy l p)).length == 2) && (seesV l (gx l m) (gy l m) (gx l p) (gy l p) && (midP l (gx l m) (gy l m) (gx l p) (gy l p) == 2))) by unfold dgN; rw [HMP.out, HNB.out]; rfl)
          rw [hs] at HV
          cases hc : ((cuts l (gx l m) (gy l m) (gx l p) (gy l p)).length == 2)
          all_goals
            rw [hc] at HV
            go_wp2_with (first
              | (go_at_call 43; refine (cornersBetween_any _ _ _ _ _ _ _ _ (hp.ext (by (repeat (first | exact Ext.refl _ | assumption | apply Ext.alloc | apply Ext.drew | apply Ext.drewN | (refine Ext.trans ?_ (by assumption)))))) HR.out HPM.out HPP.out).mono ?_; rintro e wc ⟨A2, c2, s, rfl, hs1, hs2, hs3, hs4⟩; have f9 := HB8.out wc (by (repeat (first | exact Ext.refl _ | assumption | apply Ext.alloc | apply Ext.drew | apply Ext.drewN | (refine Ext.trans ?_ (by assumption))))); have fb9 := HB.out wc (by (repeat (first | exact Ext.refl _ | assumption | apply Ext.alloc | apply Ext.drew | apply Ext.drewN | (refine Ext.trans ?_ (by assumption))))); have hsl : ((s.length : Int) == 2) = _ := (nat_eq_cast s.length 2).trans ((by rw [hs1.length_eq] : (s.length == 2) = _).trans hc); clear hs1 hs2 hs3)
              | (go_at_call 22; refine (sees_any _ _ _ _ _ _ _ _ (hp.ext (by (repeat (first | exact Ext.refl _ | assumption | apply Ext.alloc | apply Ext.drew | apply Ext.drewN | (refine Ext.trans ?_ (by assumption)))))) HR.out HPM.out HPP.out).mono ?_; rw [hs]; rintro e wf ⟨rfl, hb5⟩; have f10 := HB8.out wf (by (repeat (first | exact Ext.refl _ | assumption | apply Ext.alloc | apply Ext.drew | apply Ext.drewN | (refine Ext.trans ?_ (by assumption))))); have fb10 := HB.out wf (by (repeat (first | exact Ext.refl _ | assumption | apply Ext.alloc | apply Ext.drew | apply Ext.drewN | (refine Ext.trans ?_ (by assumption))))))
              | (go_at_call 44; refine (middle_any _ _ _ _ _ _ _ _ (hp.ext (by (repeat (first | exact Ext.refl _ | assumption | apply Ext.alloc | apply Ext.drew | apply Ext.drewN | (refine Ext.trans ?_ (by assumption)))))) HR.out HPM.out HPP.out).mono ?_; rintro e wg ⟨rfl, hb6⟩))
            go_ret
            exact ⟨ret_bool (by rw [HV.out]; simp), by (repeat (first | exact Ext.refl _ | assumption | apply Ext.alloc | apply Ext.drew | apply Ext.drewN | (refine Ext.trans ?_ (by assumption))))⟩
      · have k2 := pair_fst w4 28 (gx l p) (gy l p) (gx l m) (gy l m)
        have k1 := pair_snd w4 28 (gx l p) (gy l p) (gx l m) (gy l m)
        have hwd : Ext w4 (((w4.alloc (.cells #[.int .i64 (gx l p), .int .i64 (gy l p)] 28)).alloc (.cells #[.int .i64 (gx l m), .int .i64 (gy l m)] 28)).drew) := by (repeat (first | exact Ext.refl _ | assumption | apply Ext.alloc | apply Ext.drew | apply Ext.drewN | (refine Ext.trans ?_ (by assumption))))
        generalize (((w4.alloc (.cells #[.int .i64 (gx l p), .int .i64 (gy l p)] 28)).alloc (.cells #[.int .i64 (gx l m), .int .i64 (gy l m)] 28)).drew) = wd at k1 k2 hwd ⊢
        have HB8 := hide (show ∀ w', Ext wd w' → (w'.cell? ⟨w4.heap.size + 1, 0, none⟩ = some (.int .i64 (gx l m)) ∧ w'.cell? ⟨w4.heap.size + 1, 1, none⟩ = some (.int .i64 (gy l m)) ∧ w4.heap.size + 1 < w'.heap.size) ∧ (w'.cell? ⟨w4.heap.size, 0, none⟩ = some (.int .i64 (gx l p)) ∧ w'.cell? ⟨w4.heap.size, 1, none⟩ = some (.int .i64 (gy l p)) ∧ w4.heap.size < w'.heap.size) from fun w' hx => ⟨⟨(hx.cells _ _ k1.cells.1).trans k1.cells.2.1, (hx.cells _ _ k1.cells.1).trans k1.cells.2.2.1, Nat.lt_of_lt_of_le k1.cells.1 hx.size⟩, ⟨(hx.cells _ _ k2.cells.1).trans k2.cells.2.1, (hx.cells _ _ k2.cells.1).trans k2.cells.2.2.1, Nat.lt_of_lt_of_le k2.cells.1 hx.size⟩⟩)
        have f8 := HB8.out wd (Ext.refl _)
        have fb := HB.out wd (by (repeat (first | exact Ext.refl _ | assumption | apply Ext.alloc | apply Ext.drew | apply Ext.drewN | (refine Ext.trans ?_ (by assumption)))))
        clear k1 k2 hx0 hy0 hx1 hy1 fb4
        cases hs : seesV l (gx l m) (gy l m) (gx l p) (gy l p)
        all_goals
          have HV := hide (show dgN l m p = (((cuts l (gx l m) (gy l m) (gx l p) (gy l p)).length == 2) && (seesV l (gx l m) (gy l m) (gx l p) (gy l p) && (midP l (gx l m) (gy l m) (gx l p) (gy l p) == 2))) by unfold dgN; rw [HMP.out, HNB.out]; rfl)
          rw [hs] at HV
          cases hc : ((cuts l (gx l m) (gy l m) (gx l p) (gy l p)).length == 2)
          all_goals
            rw [hc] at HV
            go_wp2_with (first
              | (go_at_call 43; refine (cornersBetween_any _ _ _ _ _ _ _ _ (hp.ext (by (repeat (first | exact Ext.refl _ | assumption | apply Ext.alloc | apply Ext.drew | apply Ext.drewN | (refine Ext.trans ?_ (by assumption)))))) HR.out HPM.out HPP.out).mono ?_; rintro e wc ⟨A2, c2, s, rfl, hs1, hs2, hs3, hs4⟩; have f9 := HB8.out wc (by (repeat (first | exact Ext.refl _ | assumption | apply Ext.alloc | apply Ext.drew | apply Ext.drewN | (refine Ext.trans ?_ (by assumption))))); have fb9 := HB.out wc (by (repeat (first | exact Ext.refl _ | assumption | apply Ext.alloc | apply Ext.drew | apply Ext.drewN | (refine Ext.trans ?_ (by assumption))))); have hsl : ((s.length : Int) == 2) = _ := (nat_eq_cast s.length 2).trans ((by rw [hs1.length_eq] : (s.length == 2) = _).trans hc); clear hs1 hs2 hs3)
              | (go_at_call 22; refine (sees_any _ _ _ _ _ _ _ _ (hp.ext (by (repeat (first | exact Ext.refl _ | assumption | apply Ext.alloc | apply Ext.drew | apply Ext.drewN | (refine Ext.trans ?_ (by assumption)))))) HR.out HPM.out HPP.out).mono ?_; rw [hs]; rintro e wf ⟨rfl, hb5⟩; have f10 := HB8.out wf (by (repeat (first | exact Ext.refl _ | assumption | apply Ext.alloc | apply Ext.drew | apply Ext.drewN | (refine Ext.trans ?_ (by assumption))))); have fb10 := HB.out wf (by (repeat (first | exact Ext.refl _ | assumption | apply Ext.alloc | apply Ext.drew | apply Ext.drewN | (refine Ext.trans ?_ (by assumption))))))
              | (go_at_call 44; refine (middle_any _ _ _ _ _ _ _ _ (hp.ext (by (repeat (first | exact Ext.refl _ | assumption | apply Ext.alloc | apply Ext.drew | apply Ext.drewN | (refine Ext.trans ?_ (by assumption)))))) HR.out HPM.out HPP.out).mono ?_; rintro e wg ⟨rfl, hb6⟩))
            go_ret
            exact ⟨ret_bool (by rw [HV.out]; simp), by (repeat (first | exact Ext.refl _ | assumption | apply Ext.alloc | apply Ext.drew | apply Ext.drewN | (refine Ext.trans ?_ (by assumption))))⟩
    · have HV := hide (show dgN l m p = false by unfold dgN; rw [e1]; simp)
      go_enter Try.func29, Try.ntmps29
      go_wp2_with (first
        | (go_at_call 33; refine (between_any _ _ _ _).mono ?_; (first | rw [i1] | rw [i2]); rintro e w1 ⟨rfl, rfl⟩)
        | (go_at_call 49; refine (neighbors_any _ _ _ _ _ _ hn hm hpl).mono ?_; rw [e1]; rintro e w4 ⟨rfl, hb4⟩))
      go_ret
      exact ⟨ret_bool (by rw [HV.out]), by (repeat (first | exact Ext.refl _ | assumption | apply Ext.alloc | apply Ext.drew | apply Ext.drewN | (refine Ext.trans ?_ (by assumption))))⟩
  · rw [e0] at hmp
    have HV := hide (show dgN l m p = false by unfold dgN; rw [e0]; simp)
    clear e0
    go_enter Try.func29, Try.ntmps29
    go_wp2_with (first
      | (go_at_call 33; refine (between_any _ _ _ _).mono ?_; (first | rw [i1] | rw [i2]); rintro e w1 ⟨rfl, rfl⟩))
    go_ret
    exact ⟨ret_bool (by rw [HV.out]), by (repeat (first | exact Ext.refl _ | assumption | apply Ext.alloc | apply Ext.drew | apply Ext.drewN | (refine Ext.trans ?_ (by assumption))))⟩

theorem inB_nat {l : List (Int × Int)} {k : Int} (h : inB k 0 ((l.length : Int) - 1) = true) : ∃ m : Nat, k = m ∧ m < l.length := by
  rw [inB_iff] at h
  exact ⟨k.toNat, by omega, by omega⟩

set_option maxRecDepth 100000 in
set_option maxHeartbeats 1600000 in
theorem diagonal_any (A : Option Addr) (l : List (Int × Int)) (c : Nat) (i k : Int) (w : World) (hp : RPts w A l) (hr : roomB l = true) :
    Calls Try.prog 29 #[.agg #[.slice A l.length c], .int .i64 i, .int .i64 k] w fun e w' => e = .returned (.bool (inB i 0 ((l.length : Int) - 1) && (inB k 0 ((l.length : Int) - 1) && dgN l i.toNat k.toNat))) ∧ Ext w w' := by
  have h10 := (roomB_fine hr).1.2
  have hn : l.length ≤ 1048576 := by omega
  cases h1 : inB i 0 ((l.length : Int) - 1)
  · go_enter Try.func29, Try.ntmps29
    go_wp2_with (go_at_call 33; refine (between_any _ _ _ _).mono ?_; rw [h1]; rintro e w1 ⟨rfl, rfl⟩)
    go_ret
    exact ⟨rfl, by (repeat (first | exact Ext.refl _ | assumption | apply Ext.alloc | apply Ext.drew | apply Ext.drewN | (refine Ext.trans ?_ (by assumption))))⟩
  · cases h2 : inB k 0 ((l.length : Int) - 1)
    · go_enter Try.func29, Try.ntmps29
      go_wp2_with (go_at_call 33; refine (between_any _ _ _ _).mono ?_; (first | rw [h1] | rw [h2]); rintro e w1 ⟨rfl, rfl⟩)
      go_ret
      exact ⟨rfl, by (repeat (first | exact Ext.refl _ | assumption | apply Ext.alloc | apply Ext.drew | apply Ext.drewN | (refine Ext.trans ?_ (by assumption))))⟩
    · obtain ⟨m, rfl, hm⟩ := inB_nat h1
      obtain ⟨p, rfl, hpl⟩ := inB_nat h2
      exact diagonal_nat A l c m p w hp hr hm hpl

set_option maxHeartbeats 1600000 in
theorem IsDiagonal_any (A : Option Addr) (l : List (Int × Int)) (c : Nat) (i k : Int) (w : World) (hp : RPts w A l) (hn : l.length ≤ 1048576) :
    Calls Try.prog 13 #[.agg #[.slice A l.length c], .int .i64 i, .int .i64 k] w fun e w' => e = .returned (.bool (diagB l i k)) ∧ Ext w w' := by
  have HB : Hid (∀ w', Ext (w.alloc (.cells #[.slice A l.length c] 26)) w' → w'.cell? ⟨w.heap.size, 0, none⟩ = some (.slice A l.length c) ∧ w.heap.size < w'.heap.size) := fun w' hx => by
    and_intros <;> (first | (have hz := hx.size; simp at hz; omega) | ((first | rw [hx.cells _ _ (by first | (simp; done) | (simp; omega))] | rw [hx.frozens _ _ (by first | (simp; done) | (simp; omega))]); (first | (simp [go_sem]; done) | (simp [go_sem, World.cell?_alloc_past]; done) | (simp [go_sem, World.frozen?]; done))))
  unfold diagB
  cases hr : roomB l
  · go_enter Try.func13, Try.ntmps13
    go_wp2_with (go_at_call 17; refine (RoomOk_any _ _ _ _ (hp.ext (by (repeat (first | exact Ext.refl _ | assumption | apply Ext.alloc | apply Ext.drew | apply Ext.drewN | (refine Ext.trans ?_ (by assumption)))))) hn).mono ?_; rw [hr]; rintro e w1 ⟨rfl, hb1⟩)
    go_ret
    exact ⟨rfl, by (repeat (first | exact Ext.refl _ | assumption | apply Ext.alloc | apply Ext.drew | apply Ext.drewN | (refine Ext.trans ?_ (by assumption))))⟩
  · have HR := hide hr
    go_enter Try.func13, Try.ntmps13
    go_wp2_with (first | (go_at_call 17; refine (RoomOk_any _ _ _ _ (hp.ext (by (repeat (first | exact Ext.refl _ | assumption | apply Ext.alloc | apply Ext.drew | apply Ext.drewN | (refine Ext.trans ?_ (by assumption)))))) hn).mono ?_; rw [hr]; rintro e w1 ⟨rfl, hb1⟩; have f1 := HB.out w1 (by (repeat (first | exact Ext.refl _ | assumption | apply Ext.alloc | apply Ext.drew | apply Ext.drewN | (refine Ext.trans ?_ (by assumption)))))) | (go_at_call 29; refine (diagonal_any _ _ _ _ _ _ (hp.ext (by (repeat (first | exact Ext.refl _ | assumption | apply Ext.alloc | apply Ext.drew | apply Ext.drewN | (refine Ext.trans ?_ (by assumption)))))) HR.out).mono ?_; rintro e w2 ⟨rfl, hb2⟩))
    go_ret
    exact ⟨rfl, by (repeat (first | exact Ext.refl _ | assumption | apply Ext.alloc | apply Ext.drew | apply Ext.drewN | (refine Ext.trans ?_ (by assumption))))⟩

end Go.Proofs.Ytjccilpjaaiicaa
