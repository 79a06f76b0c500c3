/- The walk of FnExactCutRoom. -/
import Derived.Test.YtmccffmkfdcmmaaCutP
import Derived.Test.YtmccffmkfdcmmaaMarks
namespace Go.Proofs.Ytmccffmkfdcmmaa
open Go.RowKit

theorem cutA_le (l : List (Int × Int)) (i k : Int) : (cutA l i k).length ≤ 1048576 := by
  unfold cutA
  split
  · rename_i h
    unfold cutOk at h
    simp only [Bool.and_eq_true] at h
    obtain ⟨m, p, rfl, rfl, hm, hpl, _, hr⟩ := diagB_at h.1
    have := (roomB_fine h.2.1).1.2
    omega
  · simp
theorem cutB2_le (l : List (Int × Int)) (i k : Int) : (cutB2 l i k).length ≤ 1048576 := by
  unfold cutB2
  split
  · rename_i h
    unfold cutOk at h
    simp only [Bool.and_eq_true] at h
    have := (roomB_fine h.2.2).1.2
    omega
  · simp

set_option maxRecDepth 100000 in
set_option maxHeartbeats 6400000 in
theorem cutRoom_walk (A0 : Option Addr) (l0 : List (Int × Int)) (c0 : Nat) (k1 k2 : Int) (w : World) (hm0 : l0.length ≤ maxLen) (hp0 : RPts w A0 l0) :
    Calls Try.prog 10 #[.agg #[.slice A0 l0.length c0], .int .i64 k1, .int .i64 k2] w fun e w' => e = .returned (.bool true) ∧ Below w.heap.size w w' := by
  have HB : Hid (∀ w', Ext (w.alloc (.cells #[.slice A0 l0.length c0] 24)) w' → w'.cell? ⟨w.heap.size, 0, none⟩ = some (.slice A0 l0.length c0) ∧ w.heap.size < w'.heap.size) := fun w' hx => by
    and_intros <;> (first | (have hz := hx.size; simp at hz; omega) | ((first | rw [hx.cells _ _ (by first | (simp; done) | (simp; omega))] | rw [hx.frozens _ _ (by first | (simp; done) | (simp; omega))]); (first | (simp [go_sem]; done) | (simp [go_sem, World.cell?_alloc_past]; done) | (simp [go_sem, World.frozen?]; done))))
  by_cases hb0 : (1048576 : Int) < l0.length
  · go_enter Try.func10, Try.ntmps10
    go_wp2_with fail
    refine (szRoomL_any _ _ _ _ _ hm0 (by omega) (by omega)).mono ?_
    rw [if_pos (by omega)]
    rintro e w1 ⟨rfl, ex1⟩
    have b1 := HB.out w1 (by (repeat (first | exact Ext.refl _ | assumption | apply Ext.alloc | apply Ext.drew | apply Ext.drewN | (refine Ext.trans ?_ (by assumption)))))
    go_wp2
    go_ret
    exact ⟨rfl, Ext.below (by (repeat (first | exact Ext.refl _ | assumption | apply Ext.alloc | apply Ext.drew | apply Ext.drewN | (refine Ext.trans ?_ (by assumption)))))⟩
  have hn0 : l0.length ≤ 1048576 := by omega
  have hv := cutA_le l0 k1 k2
  have hu := cutB2_le l0 k1 k2
  obtain ⟨V, hV⟩ : ∃ V, V = cutA l0 k1 k2 := ⟨_, rfl⟩
  obtain ⟨U, hU⟩ : ∃ U, U = cutB2 l0 k1 k2 := ⟨_, rfl⟩
  obtain ⟨ok, hok⟩ : ∃ ok, ok = cutOk l0 k1 k2 := ⟨_, rfl⟩
  rw [← hV] at hv
  rw [← hU] at hu
  have HV := hide hV
  have HU := hide hU
  have HO := hide hok
  clear hV hU hok
  go_enter Try.func10, Try.ntmps10
  go_wp2_with fail
  refine (szRoomL_any _ _ _ _ _ hm0 (by omega) (by omega)).mono ?_
  rw [if_neg (by omega)]
  rintro e w1 ⟨rfl, ex1⟩
  have f1 := HB.out w1 (by (repeat (first | exact Ext.refl _ | assumption | apply Ext.alloc | apply Ext.drew | apply Ext.drewN | (refine Ext.trans ?_ (by assumption)))))
  go_wp2_with fail
  refine (toRoom_any _ _ _ _ (hp0.ext (by (repeat (first | exact Ext.refl _ | assumption | apply Ext.alloc | apply Ext.drew | apply Ext.drewN | (refine Ext.trans ?_ (by assumption)))))) hn0).mono ?_
  rintro e w2 ⟨S0, rfl, o2, ex2⟩
  clear f1
  have f2 := HB.out w2 (by (repeat (first | exact Ext.refl _ | assumption | apply Ext.alloc | apply Ext.drew | apply Ext.drewN | (refine Ext.trans ?_ (by assumption)))))
  have p2 := o2.r (Nat.le_refl _)
  go_wp2_with fail
  refine (sCutRoom_any _ _ _ _ _ _ (p2.ext (by (repeat (first | exact Ext.refl _ | assumption | apply Ext.alloc | apply Ext.drew | apply Ext.drewN | (refine Ext.trans ?_ (by assumption)))))) hn0).mono ?_
  rw [← HV.out, ← HU.out, ← HO.out]
  rintro e w3 ⟨Z, z, Y, y, za1, za2, zb1, zb2, rfl, oz, oy, za, zb, zc, zd, _, ex3⟩
  clear f2 o2
  have f3 := HB.out w3 (by (repeat (first | exact Ext.refl _ | assumption | apply Ext.alloc | apply Ext.drew | apply Ext.drewN | (refine Ext.trans ?_ (by assumption)))))
  have q23 := (show Ext w w2 by (repeat (first | exact Ext.refl _ | assumption | apply Ext.alloc | apply Ext.drew | apply Ext.drewN | (refine Ext.trans ?_ (by assumption))))).size
  have oz' : OwnS w3 w.heap.size w3.heap.size 35 Z V := oz.more (by omega) zb
  have oy' : OwnS w3 w.heap.size w3.heap.size 35 Y U := oy.more (by omega) zd
  clear oz oy za zb zc zd q23
  have HZ : Hid (∀ w', Ext ((w3.alloc (.cells #[.slice Z V.length z] 29)).alloc (.cells #[.slice Y U.length y] 29)) w' → w'.cell? ⟨w3.heap.size, 0, none⟩ = some (.slice Z V.length z) ∧ w3.heap.size < w'.heap.size ∧ w'.cell? ⟨w3.heap.size + 1, 0, none⟩ = some (.slice Y U.length y) ∧ w3.heap.size + 1 < w'.heap.size) := fun w' hx => by
    and_intros <;> (first | (have hz := hx.size; simp at hz; omega) | ((first | rw [hx.cells _ _ (by first | (simp; done) | (simp; omega))] | rw [hx.frozens _ _ (by first | (simp; done) | (simp; omega))]); (first | (simp [go_sem]; done) | (simp [go_sem, World.cell?_alloc_past]; done) | (simp [go_sem, World.frozen?]; done))))
  go_wp2_with fail
  refine (toRoom_any _ _ _ _ (hp0.ext (by (repeat (first | exact Ext.refl _ | assumption | apply Ext.alloc | apply Ext.drew | apply Ext.drewN | (refine Ext.trans ?_ (by assumption)))))) hn0).mono ?_
  rintro e w4 ⟨B0, rfl, o4, ex4⟩
  clear f3
  have f4 := HB.out w4 (by (repeat (first | exact Ext.refl _ | assumption | apply Ext.alloc | apply Ext.drew | apply Ext.drewN | (refine Ext.trans ?_ (by assumption)))))
  have z4 := HZ.out w4 (by (repeat (first | exact Ext.refl _ | assumption | apply Ext.alloc | apply Ext.drew | apply Ext.drewN | (refine Ext.trans ?_ (by assumption)))))
  have p4 := o4.r (Nat.le_refl _)
  have o4' : OwnS w4 (w3.heap.size + 1 + 1) w4.heap.size 35 B0 l0 := o4.more (by simp) (Nat.le_refl _)
  have HX : Hid (∀ w', Ext (w4.alloc (.cells #[.slice B0 l0.length l0.length] 29)) w' → w'.cell? ⟨w4.heap.size, 0, none⟩ = some (.slice B0 l0.length l0.length) ∧ w4.heap.size < w'.heap.size) := fun w' hx => by
    and_intros <;> (first | (have hz := hx.size; simp at hz; omega) | ((first | rw [hx.cells _ _ (by first | (simp; done) | (simp; omega))] | rw [hx.frozens _ _ (by first | (simp; done) | (simp; omega))]); (first | (simp [go_sem]; done) | (simp [go_sem, World.cell?_alloc_past]; done) | (simp [go_sem, World.frozen?]; done))))
  go_wp2_with fail
  refine (CutRoom_any _ _ _ _ _ _ (p4.ext (by (repeat (first | exact Ext.refl _ | assumption | apply Ext.alloc | apply Ext.drew | apply Ext.drewN | (refine Ext.trans ?_ (by assumption)))))) hn0).mono ?_
  rw [← HV.out, ← HU.out, ← HO.out]
  rintro e w5 ⟨G, g, F, f, a1, a2, b1, b2, rfl, og, of_, ga, gb, gc, gd, gap5, ex5⟩
  clear f4 z4
  have f5 := HB.out w5 (by (repeat (first | exact Ext.refl _ | assumption | apply Ext.alloc | apply Ext.drew | apply Ext.drewN | (refine Ext.trans ?_ (by assumption)))))
  have z5 := HZ.out w5 (by (repeat (first | exact Ext.refl _ | assumption | apply Ext.alloc | apply Ext.drew | apply Ext.drewN | (refine Ext.trans ?_ (by assumption)))))
  have h5 := HX.out w5 (by (repeat (first | exact Ext.refl _ | assumption | apply Ext.alloc | apply Ext.drew | apply Ext.drewN | (refine Ext.trans ?_ (by assumption)))))
  have ga' : w4.heap.size + 1 ≤ a1 := by simpa using ga
  have gc' : w4.heap.size + 1 ≤ b1 := by simpa using gc
  have HG : Hid (∀ w', Ext ((w5.alloc (.cells #[.slice G V.length g] 29)).alloc (.cells #[.slice F U.length f] 29)) w' → w'.cell? ⟨w5.heap.size, 0, none⟩ = some (.slice G V.length g) ∧ w5.heap.size < w'.heap.size ∧ w'.cell? ⟨w5.heap.size + 1, 0, none⟩ = some (.slice F U.length f) ∧ w5.heap.size + 1 < w'.heap.size) := fun w' hx => by
    and_intros <;> (first | (have hz := hx.size; simp at hz; omega) | ((first | rw [hx.cells _ _ (by first | (simp; done) | (simp; omega))] | rw [hx.frozens _ _ (by first | (simp; done) | (simp; omega))]); (first | (simp [go_sem]; done) | (simp [go_sem, World.cell?_alloc_past]; done) | (simp [go_sem, World.frozen?]; done))))
  go_wp2_with fail
  refine (eqRoom_same _ _ _ _ _ _ ((og.r gb).ext (by (repeat (first | exact Ext.refl _ | assumption | apply Ext.alloc | apply Ext.drew | apply Ext.drewN | (refine Ext.trans ?_ (by assumption)))))) ((oz'.r (Nat.le_refl _)).ext (by (repeat (first | exact Ext.refl _ | assumption | apply Ext.alloc | apply Ext.drew | apply Ext.drewN | (refine Ext.trans ?_ (by assumption)))))) hv).mono ?_
  rintro e w6 ⟨rfl, ex6⟩
  clear f5 h5 z5
  have f6 := HB.out w6 (by (repeat (first | exact Ext.refl _ | assumption | apply Ext.alloc | apply Ext.drew | apply Ext.drewN | (refine Ext.trans ?_ (by assumption)))))
  have h6 := HX.out w6 (by (repeat (first | exact Ext.refl _ | assumption | apply Ext.alloc | apply Ext.drew | apply Ext.drewN | (refine Ext.trans ?_ (by assumption)))))
  have z6 := HZ.out w6 (by (repeat (first | exact Ext.refl _ | assumption | apply Ext.alloc | apply Ext.drew | apply Ext.drewN | (refine Ext.trans ?_ (by assumption)))))
  have g6 := HG.out w6 (by (repeat (first | exact Ext.refl _ | assumption | apply Ext.alloc | apply Ext.drew | apply Ext.drewN | (refine Ext.trans ?_ (by assumption)))))
  go_wp2_with fail
  refine (eqRoom_same _ _ _ _ _ _ ((of_.r gd).ext (by (repeat (first | exact Ext.refl _ | assumption | apply Ext.alloc | apply Ext.drew | apply Ext.drewN | (refine Ext.trans ?_ (by assumption)))))) ((oy'.r (Nat.le_refl _)).ext (by (repeat (first | exact Ext.refl _ | assumption | apply Ext.alloc | apply Ext.drew | apply Ext.drewN | (refine Ext.trans ?_ (by assumption)))))) hu).mono ?_
  rintro e w6b ⟨rfl, ex6b⟩
  clear f6 h6 z6 g6
  have f6 := HB.out w6b (by (repeat (first | exact Ext.refl _ | assumption | apply Ext.alloc | apply Ext.drew | apply Ext.drewN | (refine Ext.trans ?_ (by assumption)))))
  have h6 := HX.out w6b (by (repeat (first | exact Ext.refl _ | assumption | apply Ext.alloc | apply Ext.drew | apply Ext.drewN | (refine Ext.trans ?_ (by assumption)))))
  go_wp2
  refine wp_flow (by kernel_rfl) (by kernel_rfl) (fun u => ⟨#[_, _, _, _, _, _, _, _, _, _, _, _, _, _, _, _, _, _, _, _, _, _, _, _, _, _, _, _, _, _, _, _, _, _, _, _, _, _, _, _, _, _, _, _, _, _, _, _, _, _, _, _, _, _, _, _, _, _, _, _, u 0, u 1, u 2, u 3, u 4, _, _, _, _, _, _, _, _, _, _, _, _, _, _, _, _, _, _, _, _, _, _, _, _, _, _, _, _, _, _, _, _, _, _, _, _, _, _, _, _, _, _, _, _, _, _, _, _, _, _, _, _, _, _, _, _, _, _, _, _, _, _, _, _, _, _, _, _, _, _, _, _, _, _, _, _, _, _], _⟩) (fun i => List.getD [_, _, _, _, _] i undef) [is ?v1_0, is ?v1_1, (IsRoom l0), is ?v1_3, is ?v1_4] (fun w' => w'.cell? ⟨w.heap.size, 0, none⟩ = some (.slice A0 l0.length c0) ∧ w.heap.size < w'.heap.size ∧ w'.cell? ⟨w4.heap.size, 0, none⟩ = some (.slice B0 l0.length l0.length) ∧ w4.heap.size < w'.heap.size) _ rfl ?hC1 ?hs1 ?hV1 ?fin1
  case hC1 => exact fun w' hx => (by have hq : Ext _ w' := hx; have hf0 := HB.out w' (by (repeat (first | exact Ext.refl _ | assumption | apply Ext.alloc | apply Ext.drew | apply Ext.drewN | (refine Ext.trans ?_ (by assumption))))); have hf1 := HX.out w' (by (repeat (first | exact Ext.refl _ | assumption | apply Ext.alloc | apply Ext.drew | apply Ext.drewN | (refine Ext.trans ?_ (by assumption))))); and_intros <;> first | exact hf0 | exact hf0.1 | exact hf0.2.1 | exact hf0.2.2.1 | exact hf0.2.2.2.1 | exact hf0.2.2.2.2.1 | exact hf0.2.2.2.2.2.1 | exact hf0.2.2.2.2.2.2.1 | exact hf0.2.2.2.2.2.2.2.1 | exact hf0.2.2.2.2.2.2.2.2.1 | exact hf0.2.2.2.2.2.2.2.2.2.1 | exact hf0.2.2.2.2.2.2.2.2.2.2.1 | exact hf0.2.2.2.2.2.2.2.2.2.2.2.1 | exact hf0.2.2.2.2.2.2.2.2.2.2.2.2.1 | exact hf0.2.2.2.2.2.2.2.2.2.2.2.2.2.1 | exact hf0.2 | exact hf0.2.2 | exact hf0.2.2.2 | exact hf0.2.2.2.2 | exact hf0.2.2.2.2.2 | exact hf0.2.2.2.2.2.2 | exact hf0.2.2.2.2.2.2.2 | exact hf0.2.2.2.2.2.2.2.2 | exact hf0.2.2.2.2.2.2.2.2.2 | exact hf0.2.2.2.2.2.2.2.2.2.2 | exact hf0.2.2.2.2.2.2.2.2.2.2.2 | exact hf0.2.2.2.2.2.2.2.2.2.2.2.2 | exact hf0.2.2.2.2.2.2.2.2.2.2.2.2.2 | exact hf1 | exact hf1.1 | exact hf1.2.1 | exact hf1.2.2.1 | exact hf1.2.2.2.1 | exact hf1.2.2.2.2.1 | exact hf1.2.2.2.2.2.1 | exact hf1.2.2.2.2.2.2.1 | exact hf1.2.2.2.2.2.2.2.1 | exact hf1.2.2.2.2.2.2.2.2.1 | exact hf1.2.2.2.2.2.2.2.2.2.1 | exact hf1.2.2.2.2.2.2.2.2.2.2.1 | exact hf1.2.2.2.2.2.2.2.2.2.2.2.1 | exact hf1.2.2.2.2.2.2.2.2.2.2.2.2.1 | exact hf1.2.2.2.2.2.2.2.2.2.2.2.2.2.1 | exact hf1.2 | exact hf1.2.2 | exact hf1.2.2.2 | exact hf1.2.2.2.2 | exact hf1.2.2.2.2.2 | exact hf1.2.2.2.2.2.2 | exact hf1.2.2.2.2.2.2.2 | exact hf1.2.2.2.2.2.2.2.2 | exact hf1.2.2.2.2.2.2.2.2.2 | exact hf1.2.2.2.2.2.2.2.2.2.2 | exact hf1.2.2.2.2.2.2.2.2.2.2.2 | exact hf1.2.2.2.2.2.2.2.2.2.2.2.2 | exact hf1.2.2.2.2.2.2.2.2.2.2.2.2.2)
  case hs1 =>
    repeat' (first
      | exact FSteps.nil
      | refine FSteps.cons ?_ ?_
      | (refine FStep.off_ _ _ _ rfl rfl ?_ (fun _ => rfl) ?_; (focus (intro u w hd; simp [vOf, is, Region.binds] at hd; simp [hd])); (intro w'; exact rfl); done)
      | ((first
          | refine FStep.plain rfl ?_
          | (refine FStep.on_ _ _ _ rfl rfl ?_ ?_; (focus (intro u w hd; simp [vOf, is, Region.binds] at hd; simp [hd]))))
         intro u w hW hC hd K hK
         (try simp [vOf, is, Region.binds] at hd)
         simp only [upd, Nat.reduceEqDiff, if_true, if_false] at hK
         (try simp only [hd] at hK)
         go_simp
         (first
           | (refine hK _ _ ?_ ?_; (first | exact rfl); (repeat (first | exact Ext.refl _ | assumption | apply Ext.alloc | apply Ext.drew | apply Ext.drewN | (refine Ext.trans ?_ (by assumption)))))
           | (go_at_call 13; refine (toRoom_is _ _ _ _ (hp0.ext (by (repeat (first | exact Ext.refl _ | assumption | apply Ext.alloc | apply Ext.drew | apply Ext.drewN | (refine Ext.trans ?_ (by assumption)))))) hn0).mono ?_; rintro e w1 ⟨v, rfl, hv, hb⟩; (try go_simp); refine hK _ _ ?_ ?_; exact hv; (repeat (first | exact Ext.refl _ | assumption | apply Ext.alloc | apply Ext.drew | apply Ext.drewN | (refine Ext.trans ?_ (by assumption)))))
           | (go_at_call 15; refine (eqRoom_is (l := l0) ⟨_, _, rfl, p4.ext (by (repeat (first | exact Ext.refl _ | assumption | apply Ext.alloc | apply Ext.drew | apply Ext.drewN | (refine Ext.trans ?_ (by assumption)))))⟩ (by first | exact hd.2 | exact hd.1 | exact hd) hn0).mono ?_; rintro e w1 ⟨rfl, hb⟩; (try go_simp); refine hK _ _ ?_ ?_; (first | exact rfl); (repeat (first | exact Ext.refl _ | assumption | apply Ext.alloc | apply Ext.drew | apply Ext.drewN | (refine Ext.trans ?_ (by assumption))))))))
  case hV1 => (simp only [List.forall_mem_cons]; simp [stable_is, IsRoom_stable])
  case fin1 =>
    intro u w2 hW2 hC2 hd
    simp only [AllV, is] at hd
    have hs2 := hd.2.2.1
    simp only [hd]
    clear hd
    obtain ⟨w7, rfl⟩ : ∃ ws : World, ws = w2 := ⟨_, rfl⟩
    have ex7 := hW2
    clear hW2 hC2 hs2 f6 h6
    have f7 := HB.out w7 (by (repeat (first | exact Ext.refl _ | assumption | apply Ext.alloc | apply Ext.drew | apply Ext.drewN | (refine Ext.trans ?_ (by assumption)))))
    have z7 := HZ.out w7 (by (repeat (first | exact Ext.refl _ | assumption | apply Ext.alloc | apply Ext.drew | apply Ext.drewN | (refine Ext.trans ?_ (by assumption)))))
    have h7 := HX.out w7 (by (repeat (first | exact Ext.refl _ | assumption | apply Ext.alloc | apply Ext.drew | apply Ext.drewN | (refine Ext.trans ?_ (by assumption)))))
    have g7 := HG.out w7 (by (repeat (first | exact Ext.refl _ | assumption | apply Ext.alloc | apply Ext.drew | apply Ext.drewN | (refine Ext.trans ?_ (by assumption)))))
    have s2 : w.heap.size < w7.heap.size := f7.2
    have s3 : w3.heap.size < w7.heap.size := z7.2.1
    have s3' : w3.heap.size + 1 < w7.heap.size := z7.2.2.2
    have s4 := h7.2
    have s5 := g7.2.1
    have s5' := g7.2.2.2
    have q03 : w.heap.size + 1 ≤ w3.heap.size := by have := (show Ext (w.alloc (.cells #[.slice A0 l0.length c0] 24)) w3 by (repeat (first | exact Ext.refl _ | assumption | apply Ext.alloc | apply Ext.drew | apply Ext.drewN | (refine Ext.trans ?_ (by assumption))))).size; simpa using this
    have q4 : w3.heap.size + 1 + 1 ≤ w4.heap.size := by have := (show Ext ((w3.alloc (.cells #[.slice Z V.length z] 29)).alloc (.cells #[.slice Y U.length y] 29)) w4 by (repeat (first | exact Ext.refl _ | assumption | apply Ext.alloc | apply Ext.drew | apply Ext.drewN | (refine Ext.trans ?_ (by assumption))))).size; simpa using this
    have q5 : w4.heap.size + 1 ≤ w5.heap.size := by have := (show Ext (w4.alloc (.cells #[.slice B0 l0.length l0.length] 29)) w5 by (repeat (first | exact Ext.refl _ | assumption | apply Ext.alloc | apply Ext.drew | apply Ext.drewN | (refine Ext.trans ?_ (by assumption))))).size; simpa using this
    have G7 := og.ext (show Ext w5 w7 by (repeat (first | exact Ext.refl _ | assumption | apply Ext.alloc | apply Ext.drew | apply Ext.drewN | (refine Ext.trans ?_ (by assumption)))))
    have F7 := of_.ext (show Ext w5 w7 by (repeat (first | exact Ext.refl _ | assumption | apply Ext.alloc | apply Ext.drew | apply Ext.drewN | (refine Ext.trans ?_ (by assumption)))))
    have q57 : w5.heap.size ≤ w7.heap.size := (show Ext w5 w7 by (repeat (first | exact Ext.refl _ | assumption | apply Ext.alloc | apply Ext.drew | apply Ext.drewN | (refine Ext.trans ?_ (by assumption))))).size
    have Z7 := oz'.ext (show Ext w3 w7 by (repeat (first | exact Ext.refl _ | assumption | apply Ext.alloc | apply Ext.drew | apply Ext.drewN | (refine Ext.trans ?_ (by assumption)))))
    have Y7 := oy'.ext (show Ext w3 w7 by (repeat (first | exact Ext.refl _ | assumption | apply Ext.alloc | apply Ext.drew | apply Ext.drewN | (refine Ext.trans ?_ (by assumption)))))
    have O7 := o4'.ext (show Ext w4 w7 by (repeat (first | exact Ext.refl _ | assumption | apply Ext.alloc | apply Ext.drew | apply Ext.drewN | (refine Ext.trans ?_ (by assumption)))))
    have x07 : Ext w w7 := by (repeat (first | exact Ext.refl _ | assumption | apply Ext.alloc | apply Ext.drew | apply Ext.drewN | (refine Ext.trans ?_ (by assumption))))
    have P7 : Pts w7 0 w.heap.size A0 l0 := Pts.ext hp0 x07 (Nat.le_refl _)
    clear ex1 ex2 ex3 ex4 ex5 ex6 ex6b ex7 og of_ o4 oz' oy' o4' p4 p2 HB HX HZ HG ga gc
    obtain ⟨R, hR⟩ : ∃ R : Nat → Prop, R = fun k => (w3.heap.size + 1 + 1 ≤ k ∧ k < w4.heap.size) ∨ (a1 ≤ k ∧ k < a2) ∨ (b1 ≤ k ∧ k < b2) := ⟨_, rfl⟩
    have R1 : ∀ k, w3.heap.size + 1 + 1 ≤ k → k < w4.heap.size → R k := fun k a b => by rw [hR]; exact .inl ⟨a, b⟩
    have R2 : ∀ k, a1 ≤ k → k < a2 → R k := fun k a b => by rw [hR]; exact .inr (.inl ⟨a, b⟩)
    have R2' : ∀ k, b1 ≤ k → k < b2 → R k := fun k a b => by rw [hR]; exact .inr (.inr ⟨a, b⟩)
    have R3 : ∀ k, R k → w3.heap.size + 1 + 1 ≤ k := fun k h => by rw [hR] at h; rcases h with ⟨a, _⟩ | ⟨a, _⟩ | ⟨a, _⟩ <;> omega
    have R4 : ¬ R w.heap.size := fun h => by have := R3 _ h; omega
    have R4' : ¬ R w3.heap.size := fun h => by have := R3 _ h; omega
    have R4'' : ¬ R (w3.heap.size + 1) := fun h => by have := R3 _ h; omega
    have R5 : ¬ R w4.heap.size := fun h => by rw [hR] at h; rcases h with ⟨a, b⟩ | ⟨a, b⟩ | ⟨a, b⟩ <;> omega
    have R6 : ¬ R w5.heap.size := fun h => by rw [hR] at h; rcases h with ⟨a, b⟩ | ⟨a, b⟩ | ⟨a, b⟩ <;> omega
    have R6' : ¬ R (w5.heap.size + 1) := fun h => by rw [hR] at h; rcases h with ⟨a, b⟩ | ⟨a, b⟩ | ⟨a, b⟩ <;> omega
    clear hR
    have HM : Hid (∀ w', Mut R w7 w' → RPts w' A0 l0 ∧ OwnS w' w.heap.size w3.heap.size 35 Z V ∧ OwnS w' w.heap.size w3.heap.size 35 Y U) := fun w' m => ⟨m.rpts P7 (by omega) (fun k hk => by have := R3 k hk; omega), m.ownS Z7 (fun k _ hk hc => by have := R3 k hc; omega), m.ownS Y7 (fun k _ hk hc => by have := R3 k hc; omega)⟩
    have HC : Hid (∀ w', Mut R w7 w' → (w'.cell? ⟨w.heap.size, 0, none⟩ = some (.slice A0 l0.length c0) ∧ w.heap.size < w'.heap.size) ∧ (w'.cell? ⟨w3.heap.size, 0, none⟩ = some (.slice Z V.length z) ∧ w3.heap.size < w'.heap.size) ∧ (w'.cell? ⟨w3.heap.size + 1, 0, none⟩ = some (.slice Y U.length y) ∧ w3.heap.size + 1 < w'.heap.size) ∧ (w'.cell? ⟨w4.heap.size, 0, none⟩ = some (.slice B0 l0.length l0.length) ∧ w4.heap.size < w'.heap.size) ∧ (w'.cell? ⟨w5.heap.size, 0, none⟩ = some (.slice G V.length g) ∧ w5.heap.size < w'.heap.size) ∧ (w'.cell? ⟨w5.heap.size + 1, 0, none⟩ = some (.slice F U.length f) ∧ w5.heap.size + 1 < w'.heap.size)) := fun w' m => ⟨⟨(m.cell s2 R4 0).trans f7.1, Nat.lt_of_lt_of_le s2 m.size⟩, ⟨(m.cell s3 R4' 0).trans z7.1, Nat.lt_of_lt_of_le s3 m.size⟩, ⟨(m.cell s3' R4'' 0).trans z7.2.2.1, Nat.lt_of_lt_of_le s3' m.size⟩, ⟨(m.cell s4 R5 0).trans h7.1, Nat.lt_of_lt_of_le s4 m.size⟩, ⟨(m.cell s5 R6 0).trans g7.1, Nat.lt_of_lt_of_le s5 m.size⟩, ⟨(m.cell s5' R6' 0).trans g7.2.2.1, Nat.lt_of_lt_of_le s5' m.size⟩⟩
    have hk1 : ¬ ((1 : Int) + 2 * (l0.length : Int) < 0) := by omega
    have hk2 : ¬ ((1 : Int) + 2 * (V.length : Int) < 0) := by omega
    have hk3 : ¬ ((1 : Int) + 2 * (V.length : Int) + 2 * (U.length : Int) < 0) := by omega
    go_wp2_with fail
    refine (markRoom_any _ _ _ (w3.heap.size + 1 + 1) w4.heap.size _ _ (O7.ext (by (repeat (first | exact Ext.refl _ | assumption | apply Ext.alloc | apply Ext.drew | apply Ext.drewN | (refine Ext.trans ?_ (by assumption)))))) hn0 (by omega) (by omega)).mono ?_
    rintro e w8 ⟨rfl, ⟨v8, xv8, cv8⟩, _⟩
    have xv8' : Ext w7 v8 := by (repeat (first | exact Ext.refl _ | assumption | apply Ext.alloc | apply Ext.drew | apply Ext.drewN | (refine Ext.trans ?_ (by assumption))))
    have M8 : Mut R w7 w8 := (Mut.of_ext xv8').chg cv8 R1
    have G8 : OwnS w8 a1 a2 35 G V := (G7.ext xv8').chg cv8 (by omega)
    have F8 : OwnS w8 b1 b2 35 F U := (F7.ext xv8').chg cv8 (by omega)
    clear xv8 xv8' cv8 f7 h7 z7 g7 G7 F7 O7
    have f8 := HC.out w8 M8
    go_wp2_with fail
    refine (eqRoom_same _ _ _ _ _ _ ((G8.hi_size.r (Nat.le_refl _)).ext (by (repeat (first | exact Ext.refl _ | assumption | apply Ext.alloc | apply Ext.drew | apply Ext.drewN | (refine Ext.trans ?_ (by assumption)))))) ((((HM.out w8 M8).2.1).hi_size.r (Nat.le_refl _)).ext (by (repeat (first | exact Ext.refl _ | assumption | apply Ext.alloc | apply Ext.drew | apply Ext.drewN | (refine Ext.trans ?_ (by assumption)))))) hv).mono ?_
    rintro e w9 ⟨rfl, ex9⟩
    have M9 := M8.ext ex9
    have G9 := G8.ext ex9
    have F9 := F8.ext ex9
    clear f8 M8 G8 F8
    have f9 := HC.out w9 M9
    go_wp2_with fail
    refine (eqRoom_same _ _ _ _ _ _ ((F9.hi_size.r (Nat.le_refl _)).ext (by (repeat (first | exact Ext.refl _ | assumption | apply Ext.alloc | apply Ext.drew | apply Ext.drewN | (refine Ext.trans ?_ (by assumption)))))) ((((HM.out w9 M9).2.2).hi_size.r (Nat.le_refl _)).ext (by (repeat (first | exact Ext.refl _ | assumption | apply Ext.alloc | apply Ext.drew | apply Ext.drewN | (refine Ext.trans ?_ (by assumption)))))) hu).mono ?_
    rintro e wa ⟨rfl, exa⟩
    have MA := M9.ext exa
    have GA := G9.ext exa
    have FA := F9.ext exa
    clear f9 M9 G9 F9 ex9
    have fa := HC.out wa MA
    go_wp2_with fail
    refine (markRoom_any _ _ _ a1 a2 _ _ GA hv (by omega) (by omega)).mono ?_
    rintro e w10 ⟨rfl, ⟨v10, xv10, cv10⟩, G10⟩
    have M10 : Mut R w7 w10 := (MA.ext xv10).chg cv10 R2
    have F10 : OwnS w10 b1 b2 35 F U := (FA.ext xv10).chg cv10 (by omega)
    clear cv10 xv10 fa MA GA FA exa
    have f10 := HC.out w10 M10
    go_wp2_with fail
    refine (markRoom_any _ _ _ b1 b2 _ _ F10 hu (by omega) (by omega)).mono ?_
    rintro e w11 ⟨rfl, ⟨v11, xv11, cv11⟩, F11⟩
    have M11 : Mut R w7 w11 := (M10.ext xv11).chg cv11 R2'
    have G11 : OwnS w11 a1 a2 35 G (markL 1 V.length) := (G10.ext xv11).chg cv11 (by omega)
    clear cv11 xv11 f10 M10 G10 F10
    have f11 := HC.out w11 M11
    go_wp2_with fail
    refine (heldRoom_any _ _ _ _ _ (G11.hi_size.r (Nat.le_refl _)) hv (by omega) (by omega)).mono ?_
    rintro e w12 ⟨rfl, ex12⟩
    have M12 := M11.ext ex12
    have G12 := G11.ext ex12
    have F12 := F11.ext ex12
    clear f11 M11 G11 F11 ex12
    have f12 := HC.out w12 M12
    go_wp2_with fail
    refine (heldRoom_any _ _ _ _ _ (F12.hi_size.r (Nat.le_refl _)) hu (by omega) (by omega)).mono ?_
    rintro e w13 ⟨rfl, ex13⟩
    have M13 := M12.ext ex13
    have G13 := G12.ext ex13
    have F13 := F12.ext ex13
    clear f12 M12 G12 F12 ex13
    have f13 := HC.out w13 M13
    go_wp2_with fail
    refine (toRoom_any _ _ _ _ (((HM.out w13 M13).1).ext (by (repeat (first | exact Ext.refl _ | assumption | apply Ext.alloc | apply Ext.drew | apply Ext.drewN | (refine Ext.trans ?_ (by assumption)))))) hn0).mono ?_
    rintro e w14 ⟨H0, rfl, o14, ex14⟩
    have p14 := o14.r (Nat.le_refl _)
    clear f13
    have M14 := M13.ext ex14
    have f14 := HC.out w14 M14
    go_wp2_with fail
    refine (CutRoom_any _ _ _ _ _ _ (p14.ext (by (repeat (first | exact Ext.refl _ | assumption | apply Ext.alloc | apply Ext.drew | apply Ext.drewN | (refine Ext.trans ?_ (by assumption)))))) hn0).mono ?_
    rw [← HV.out, ← HU.out, ← HO.out]
    rintro e w15 ⟨H, h, J, j, c1, c2, d1, d2, rfl, oh, oj, _, hc, _, hd, _, ex15⟩
    clear f14
    have M15 := M14.ext ex15
    have G15 := (G13.ext ex14).ext ex15
    have F15 := (F13.ext ex14).ext ex15
    have f15 := HC.out w15 M15
    have HH : Hid (∀ w', Ext ((w15.alloc (.cells #[.slice H V.length h] 29)).alloc (.cells #[.slice J U.length j] 29)) w' → w'.cell? ⟨w15.heap.size, 0, none⟩ = some (.slice H V.length h) ∧ w15.heap.size < w'.heap.size ∧ w'.cell? ⟨w15.heap.size + 1, 0, none⟩ = some (.slice J U.length j) ∧ w15.heap.size + 1 < w'.heap.size) := fun w' hx => by
      and_intros <;> (first | (have hz := hx.size; simp at hz; omega) | ((first | rw [hx.cells _ _ (by first | (simp; done) | (simp; omega))] | rw [hx.frozens _ _ (by first | (simp; done) | (simp; omega))]); (first | (simp [go_sem]; done) | (simp [go_sem, World.cell?_alloc_past]; done) | (simp [go_sem, World.frozen?]; done))))
    go_wp2_with fail
    refine (eqRoom_same _ _ _ _ _ _ ((oh.r hc).ext (by (repeat (first | exact Ext.refl _ | assumption | apply Ext.alloc | apply Ext.drew | apply Ext.drewN | (refine Ext.trans ?_ (by assumption)))))) ((((HM.out w15 M15).2.1).hi_size.r (Nat.le_refl _)).ext (by (repeat (first | exact Ext.refl _ | assumption | apply Ext.alloc | apply Ext.drew | apply Ext.drewN | (refine Ext.trans ?_ (by assumption)))))) hv).mono ?_
    rintro e w16 ⟨rfl, ex16⟩
    have M16 := M15.ext (show Ext w15 w16 by (repeat (first | exact Ext.refl _ | assumption | apply Ext.alloc | apply Ext.drew | apply Ext.drewN | (refine Ext.trans ?_ (by assumption)))))
    clear f15
    have f16 := HC.out w16 M16
    have h16 := HH.out w16 (by (repeat (first | exact Ext.refl _ | assumption | apply Ext.alloc | apply Ext.drew | apply Ext.drewN | (refine Ext.trans ?_ (by assumption)))))
    go_wp2_with fail
    refine (eqRoom_same _ _ _ _ _ _ ((oj.r hd).ext (by (repeat (first | exact Ext.refl _ | assumption | apply Ext.alloc | apply Ext.drew | apply Ext.drewN | (refine Ext.trans ?_ (by assumption)))))) ((((HM.out w16 M16).2.2).hi_size.r (Nat.le_refl _)).ext (by (repeat (first | exact Ext.refl _ | assumption | apply Ext.alloc | apply Ext.drew | apply Ext.drewN | (refine Ext.trans ?_ (by assumption)))))) hu).mono ?_
    rintro e w17 ⟨rfl, ex17⟩
    have M17 := M16.ext (show Ext w16 w17 by (repeat (first | exact Ext.refl _ | assumption | apply Ext.alloc | apply Ext.drew | apply Ext.drewN | (refine Ext.trans ?_ (by assumption)))))
    have G17 := (G15.ext (show Ext w15 w17 by (repeat (first | exact Ext.refl _ | assumption | apply Ext.alloc | apply Ext.drew | apply Ext.drewN | (refine Ext.trans ?_ (by assumption))))))
    have F17 := (F15.ext (show Ext w15 w17 by (repeat (first | exact Ext.refl _ | assumption | apply Ext.alloc | apply Ext.drew | apply Ext.drewN | (refine Ext.trans ?_ (by assumption))))))
    clear f16 h16
    have f17 := HC.out w17 M17
    go_wp2_with fail
    refine (heldRoom_any _ _ _ _ _ (G17.hi_size.r (Nat.le_refl _)) hv (by omega) (by omega)).mono ?_
    rintro e w18 ⟨rfl, ex18⟩
    have M18 := M17.ext ex18
    have F18 := F17.ext ex18
    clear f17
    have f18 := HC.out w18 M18
    go_wp2_with fail
    refine (heldRoom_any _ _ _ _ _ (F18.hi_size.r (Nat.le_refl _)) hu (by omega) (by omega)).mono ?_
    rintro e w19 ⟨rfl, ex19⟩
    have M19 := M18.ext ex19
    go_wp2
    go_ret
    exact ⟨rfl, M19.below x07 (fun k hk => by have := R3 k hk; omega)⟩

end Go.Proofs.Ytmccffmkfdcmmaa
