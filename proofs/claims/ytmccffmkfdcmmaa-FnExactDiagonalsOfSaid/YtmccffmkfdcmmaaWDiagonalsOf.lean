/- The walk of FnExactDiagonalsOf. -/
import Derived.Test.YtmccffmkfdcmmaaSDgOf
import Derived.Test.YtmccffmkfdcmmaaMarks
import Derived.Test.YtmccffmkfdcmmaaEqWall
namespace Go.Proofs.Ytmccffmkfdcmmaa
open Go.RowKit

set_option maxRecDepth 100000 in
set_option maxHeartbeats 6400000 in
theorem diagonalsOf_walk (A0 : Option Addr) (l0 : List (Int × Int)) (c0 : Nat) (w : World) (hm0 : l0.length ≤ maxLen) (hp0 : RPts w A0 l0) :
    Calls Try.prog 6 #[.agg #[.slice A0 l0.length c0]] w fun e w' => e = .returned (.bool true) ∧ Below w.heap.size w w' := by
  have HB : Hid (∀ w', Ext (w.alloc (.cells #[.slice A0 l0.length c0] 24)) w' → w'.cell? ⟨w.heap.size, 0, none⟩ = some (.slice A0 l0.length c0) ∧ w.heap.size < w'.heap.size) := fun w' hx => by
    and_intros <;> (first | (have hz := hx.size; simp at hz; omega) | ((first | rw [hx.cells _ _ (by first | (simp; done) | (simp; omega))] | rw [hx.frozens _ _ (by first | (simp; done) | (simp; omega))]); (first | (simp [go_sem]; done) | (simp [go_sem, World.cell?_alloc_past]; done) | (simp [go_sem, World.frozen?]; done))))
  by_cases hb0 : (1048576 : Int) < l0.length
  · go_enter Try.func6, Try.ntmps6
    go_wp2_with fail
    refine (szRoomL_any _ _ _ _ _ hm0 (by omega) (by omega)).mono ?_
    rw [if_pos (by omega)]
    rintro e w1 ⟨rfl, ex1⟩
    have b1 := HB.out w1 (by (repeat (first | exact Ext.refl _ | assumption | apply Ext.alloc | apply Ext.drew | apply Ext.drewN | (refine Ext.trans ?_ (by assumption)))))
    go_wp2
    go_ret
    exact ⟨rfl, Ext.below (by (repeat (first | exact Ext.refl _ | assumption | apply Ext.alloc | apply Ext.drew | apply Ext.drewN | (refine Ext.trans ?_ (by assumption)))))⟩
  have hn0 : l0.length ≤ 1048576 := by omega
  have hv : (dgV l0).length ≤ 1048576 := dgV_le l0
  obtain ⟨V, hV⟩ : ∃ V, V = dgV l0 := ⟨_, rfl⟩
  rw [← hV] at hv
  have HV := hide hV
  clear hV
  go_enter Try.func6, Try.ntmps6
  go_wp2_with fail
  refine (szRoomL_any _ _ _ _ _ hm0 (by omega) (by omega)).mono ?_
  rw [if_neg (by omega)]
  rintro e w1 ⟨rfl, ex1⟩
  have f1 := HB.out w1 (by (repeat (first | exact Ext.refl _ | assumption | apply Ext.alloc | apply Ext.drew | apply Ext.drewN | (refine Ext.trans ?_ (by assumption)))))
  go_wp2_with fail
  refine (toRoom_any _ _ _ _ (hp0.ext (by (repeat (first | exact Ext.refl _ | assumption | apply Ext.alloc | apply Ext.drew | apply Ext.drewN | (refine Ext.trans ?_ (by assumption)))))) hn0).mono ?_
  rintro e w2 ⟨S0, rfl, o2, ex2⟩
  clear f1
  have f2 := HB.out w2 (by (repeat (first | exact Ext.refl _ | assumption | apply Ext.alloc | apply Ext.drew | apply Ext.drewN | (refine Ext.trans ?_ (by assumption)))))
  have p2 := o2.r (Nat.le_refl _)
  go_wp2_with fail
  refine (sDiagonalsOf_any _ _ _ _ (p2.ext (by (repeat (first | exact Ext.refl _ | assumption | apply Ext.alloc | apply Ext.drew | apply Ext.drewN | (refine Ext.trans ?_ (by assumption)))))) hn0).mono ?_
  rw [← HV.out]
  rintro e w3 ⟨Z, z, rfl, oz, ex3⟩
  clear f2 o2
  have f3 := HB.out w3 (by (repeat (first | exact Ext.refl _ | assumption | apply Ext.alloc | apply Ext.drew | apply Ext.drewN | (refine Ext.trans ?_ (by assumption)))))
  have oz' : OwnR w3 w.heap.size w3.heap.size 46 Z V := oz.more (by have := (show Ext w w2 by (repeat (first | exact Ext.refl _ | assumption | apply Ext.alloc | apply Ext.drew | apply Ext.drewN | (refine Ext.trans ?_ (by assumption))))).size; simp; omega) (Nat.le_refl _)
  go_wp2_with fail
  refine (toRoom_any _ _ _ _ (hp0.ext (by (repeat (first | exact Ext.refl _ | assumption | apply Ext.alloc | apply Ext.drew | apply Ext.drewN | (refine Ext.trans ?_ (by assumption)))))) hn0).mono ?_
  rintro e w4 ⟨B0, rfl, o4, ex4⟩
  clear f3
  have f4 := HB.out w4 (by (repeat (first | exact Ext.refl _ | assumption | apply Ext.alloc | apply Ext.drew | apply Ext.drewN | (refine Ext.trans ?_ (by assumption)))))
  have p4 := o4.r (Nat.le_refl _)
  have o4' : OwnS w4 w3.heap.size w4.heap.size 35 B0 l0 := o4.more (by simp) (Nat.le_refl _)
  have HX : Hid (∀ w', Ext (w4.alloc (.cells #[.slice B0 l0.length l0.length] 29)) w' → w'.cell? ⟨w4.heap.size, 0, none⟩ = some (.slice B0 l0.length l0.length) ∧ w4.heap.size < w'.heap.size) := fun w' hx => by
    and_intros <;> (first | (have hz := hx.size; simp at hz; omega) | ((first | rw [hx.cells _ _ (by first | (simp; done) | (simp; omega))] | rw [hx.frozens _ _ (by first | (simp; done) | (simp; omega))]); (first | (simp [go_sem]; done) | (simp [go_sem, World.cell?_alloc_past]; done) | (simp [go_sem, World.frozen?]; done))))
  go_wp2_with fail
  refine (DiagonalsOf_any _ _ _ _ (p4.ext (by (repeat (first | exact Ext.refl _ | assumption | apply Ext.alloc | apply Ext.drew | apply Ext.drewN | (refine Ext.trans ?_ (by assumption)))))) hn0).mono ?_
  rw [← HV.out]
  rintro e w5 ⟨G, g, rfl, og, ex5⟩
  clear f4
  have f5 := HB.out w5 (by (repeat (first | exact Ext.refl _ | assumption | apply Ext.alloc | apply Ext.drew | apply Ext.drewN | (refine Ext.trans ?_ (by assumption)))))
  have h5 := HX.out w5 (by (repeat (first | exact Ext.refl _ | assumption | apply Ext.alloc | apply Ext.drew | apply Ext.drewN | (refine Ext.trans ?_ (by assumption)))))
  have og' : OwnR w5 (w4.heap.size + 1) w5.heap.size 46 G V := og.more (by simp) (Nat.le_refl _)
  go_wp2_with fail
  refine (eqIntSS_same _ _ _ _ _ _ ((og'.ext (by (repeat (first | exact Ext.refl _ | assumption | apply Ext.alloc | apply Ext.drew | apply Ext.drewN | (refine Ext.trans ?_ (by assumption)))))).r) ((oz'.ext (by (repeat (first | exact Ext.refl _ | assumption | apply Ext.alloc | apply Ext.drew | apply Ext.drewN | (refine Ext.trans ?_ (by assumption)))))).r) hv).mono ?_
  rintro e w6 ⟨rfl, ex6⟩
  clear f5 h5
  have f6 := HB.out w6 (by (repeat (first | exact Ext.refl _ | assumption | apply Ext.alloc | apply Ext.drew | apply Ext.drewN | (refine Ext.trans ?_ (by assumption)))))
  have h6 := HX.out w6 (by (repeat (first | exact Ext.refl _ | assumption | apply Ext.alloc | apply Ext.drew | apply Ext.drewN | (refine Ext.trans ?_ (by assumption)))))
  go_wp2
  refine wp_flow (by kernel_rfl) (by kernel_rfl) (fun u => ⟨#[_, _, _, _, _, _, _, _, _, _, _, _, _, _, _, _, _, _, _, _, _, _, _, _, _, _, _, u 0, u 1, u 2, u 3, u 4, _, _, _, _, _, _, _, _, _, _, _, _, _, _, _, _, _, _, _, _, _, _, _, _, _, _, _, _, _, _, _, _, _, _, _, _, _], _⟩) (fun i => List.getD [_, _, _, _, _] i undef) [is ?v1_0, is ?v1_1, (IsRoom l0), is ?v1_3, is ?v1_4] (fun w' => w'.cell? ⟨w.heap.size, 0, none⟩ = some (.slice A0 l0.length c0) ∧ w.heap.size < w'.heap.size ∧ w'.cell? ⟨w4.heap.size, 0, none⟩ = some (.slice B0 l0.length l0.length) ∧ w4.heap.size < w'.heap.size) _ rfl ?hC1 ?hs1 ?hV1 ?fin1
  case hC1 => exact fun w' hx => (by have hq : Ext _ w' := hx; have hf0 := HB.out w' (by (repeat (first | exact Ext.refl _ | assumption | apply Ext.alloc | apply Ext.drew | apply Ext.drewN | (refine Ext.trans ?_ (by assumption))))); have hf1 := HX.out w' (by (repeat (first | exact Ext.refl _ | assumption | apply Ext.alloc | apply Ext.drew | apply Ext.drewN | (refine Ext.trans ?_ (by assumption))))); and_intros <;> first | exact hf0 | exact hf0.1 | exact hf0.2.1 | exact hf0.2.2.1 | exact hf0.2.2.2.1 | exact hf0.2.2.2.2.1 | exact hf0.2.2.2.2.2.1 | exact hf0.2.2.2.2.2.2.1 | exact hf0.2.2.2.2.2.2.2.1 | exact hf0.2.2.2.2.2.2.2.2.1 | exact hf0.2.2.2.2.2.2.2.2.2.1 | exact hf0.2.2.2.2.2.2.2.2.2.2.1 | exact hf0.2.2.2.2.2.2.2.2.2.2.2.1 | exact hf0.2.2.2.2.2.2.2.2.2.2.2.2.1 | exact hf0.2.2.2.2.2.2.2.2.2.2.2.2.2.1 | exact hf0.2 | exact hf0.2.2 | exact hf0.2.2.2 | exact hf0.2.2.2.2 | exact hf0.2.2.2.2.2 | exact hf0.2.2.2.2.2.2 | exact hf0.2.2.2.2.2.2.2 | exact hf0.2.2.2.2.2.2.2.2 | exact hf0.2.2.2.2.2.2.2.2.2 | exact hf0.2.2.2.2.2.2.2.2.2.2 | exact hf0.2.2.2.2.2.2.2.2.2.2.2 | exact hf0.2.2.2.2.2.2.2.2.2.2.2.2 | exact hf0.2.2.2.2.2.2.2.2.2.2.2.2.2 | exact hf1 | exact hf1.1 | exact hf1.2.1 | exact hf1.2.2.1 | exact hf1.2.2.2.1 | exact hf1.2.2.2.2.1 | exact hf1.2.2.2.2.2.1 | exact hf1.2.2.2.2.2.2.1 | exact hf1.2.2.2.2.2.2.2.1 | exact hf1.2.2.2.2.2.2.2.2.1 | exact hf1.2.2.2.2.2.2.2.2.2.1 | exact hf1.2.2.2.2.2.2.2.2.2.2.1 | exact hf1.2.2.2.2.2.2.2.2.2.2.2.1 | exact hf1.2.2.2.2.2.2.2.2.2.2.2.2.1 | exact hf1.2.2.2.2.2.2.2.2.2.2.2.2.2.1 | exact hf1.2 | exact hf1.2.2 | exact hf1.2.2.2 | exact hf1.2.2.2.2 | exact hf1.2.2.2.2.2 | exact hf1.2.2.2.2.2.2 | exact hf1.2.2.2.2.2.2.2 | exact hf1.2.2.2.2.2.2.2.2 | exact hf1.2.2.2.2.2.2.2.2.2 | exact hf1.2.2.2.2.2.2.2.2.2.2 | exact hf1.2.2.2.2.2.2.2.2.2.2.2 | exact hf1.2.2.2.2.2.2.2.2.2.2.2.2 | exact hf1.2.2.2.2.2.2.2.2.2.2.2.2.2)
  case hs1 =>
    repeat' (first
      | exact FSteps.nil
      | refine FSteps.cons ?_ ?_
      | (refine FStep.off_ _ _ _ rfl rfl ?_ (fun _ => rfl) ?_; (focus (intro u w hd; simp [vOf, is, Region.binds] at hd; simp [hd])); (intro w'; exact rfl); done)
      | ((first
          | refine FStep.plain rfl ?_
          | (refine FStep.on_ _ _ _ rfl rfl ?_ ?_; (focus (intro u w hd; simp [vOf, is, Region.binds] at hd; simp [hd]))))
         intro u w hW hC hd K hK
         (try simp [vOf, is, Region.binds] at hd)
         simp only [upd, Nat.reduceEqDiff, if_true, if_false] at hK
         (try simp only [hd] at hK)
         go_simp
         (first
           | (refine hK _ _ ?_ ?_; (first | exact rfl); (repeat (first | exact Ext.refl _ | assumption | apply Ext.alloc | apply Ext.drew | apply Ext.drewN | (refine Ext.trans ?_ (by assumption)))))
           | (go_at_call 13; refine (toRoom_is _ _ _ _ (hp0.ext (by (repeat (first | exact Ext.refl _ | assumption | apply Ext.alloc | apply Ext.drew | apply Ext.drewN | (refine Ext.trans ?_ (by assumption)))))) hn0).mono ?_; rintro e w1 ⟨v, rfl, hv, hb⟩; (try go_simp); refine hK _ _ ?_ ?_; exact hv; (repeat (first | exact Ext.refl _ | assumption | apply Ext.alloc | apply Ext.drew | apply Ext.drewN | (refine Ext.trans ?_ (by assumption)))))
           | (go_at_call 15; refine (eqRoom_is (l := l0) ⟨_, _, rfl, p4.ext (by (repeat (first | exact Ext.refl _ | assumption | apply Ext.alloc | apply Ext.drew | apply Ext.drewN | (refine Ext.trans ?_ (by assumption)))))⟩ (by first | exact hd.2 | exact hd.1 | exact hd) hn0).mono ?_; rintro e w1 ⟨rfl, hb⟩; (try go_simp); refine hK _ _ ?_ ?_; (first | exact rfl); (repeat (first | exact Ext.refl _ | assumption | apply Ext.alloc | apply Ext.drew | apply Ext.drewN | (refine Ext.trans ?_ (by assumption))))))))
  case hV1 => (simp only [List.forall_mem_cons]; simp [stable_is, IsRoom_stable])
  case fin1 =>
    intro u w2 hW2 hC2 hd
    simp only [AllV, is] at hd
    have hs2 := hd.2.2.1
    simp only [hd]
    clear hd
    obtain ⟨w7, rfl⟩ : ∃ ws : World, ws = w2 := ⟨_, rfl⟩
    have ex7 := hW2
    clear hW2 hC2 hs2 f6 h6
    have f7 := HB.out w7 (by (repeat (first | exact Ext.refl _ | assumption | apply Ext.alloc | apply Ext.drew | apply Ext.drewN | (refine Ext.trans ?_ (by assumption)))))
    have h7 := HX.out w7 (by (repeat (first | exact Ext.refl _ | assumption | apply Ext.alloc | apply Ext.drew | apply Ext.drewN | (refine Ext.trans ?_ (by assumption)))))
    have s2 : w.heap.size < w7.heap.size := f7.2

    have s4 := h7.2
    have q03 : w.heap.size < w3.heap.size := by have := (show Ext (w.alloc (.cells #[.slice A0 l0.length c0] 24)) w3 by (repeat (first | exact Ext.refl _ | assumption | apply Ext.alloc | apply Ext.drew | apply Ext.drewN | (refine Ext.trans ?_ (by assumption))))).size; simp at this; omega
    have q4 : w3.heap.size ≤ w4.heap.size := (show Ext w3 w4 by (repeat (first | exact Ext.refl _ | assumption | apply Ext.alloc | apply Ext.drew | apply Ext.drewN | (refine Ext.trans ?_ (by assumption))))).size
    have q5 : w4.heap.size + 1 ≤ w5.heap.size := by have := (show Ext (w4.alloc (.cells #[.slice B0 l0.length l0.length] 29)) w5 by (repeat (first | exact Ext.refl _ | assumption | apply Ext.alloc | apply Ext.drew | apply Ext.drewN | (refine Ext.trans ?_ (by assumption))))).size; simpa using this
    have G7 := og'.ext (show Ext w5 w7 by (repeat (first | exact Ext.refl _ | assumption | apply Ext.alloc | apply Ext.drew | apply Ext.drewN | (refine Ext.trans ?_ (by assumption)))))
    have q57 : w5.heap.size ≤ w7.heap.size := (show Ext w5 w7 by (repeat (first | exact Ext.refl _ | assumption | apply Ext.alloc | apply Ext.drew | apply Ext.drewN | (refine Ext.trans ?_ (by assumption))))).size
    have Z7 := oz'.ext (show Ext w3 w7 by (repeat (first | exact Ext.refl _ | assumption | apply Ext.alloc | apply Ext.drew | apply Ext.drewN | (refine Ext.trans ?_ (by assumption)))))
    have O7 := o4'.ext (show Ext w4 w7 by (repeat (first | exact Ext.refl _ | assumption | apply Ext.alloc | apply Ext.drew | apply Ext.drewN | (refine Ext.trans ?_ (by assumption)))))
    have x07 : Ext w w7 := by (repeat (first | exact Ext.refl _ | assumption | apply Ext.alloc | apply Ext.drew | apply Ext.drewN | (refine Ext.trans ?_ (by assumption))))
    have P7 : Pts w7 0 w.heap.size A0 l0 := Pts.ext hp0 x07 (Nat.le_refl _)
    clear ex1 ex2 ex3 ex4 ex5 ex6 ex7 oz og o4 oz' og' o4' p4 HB HX
    obtain ⟨R, hR⟩ : ∃ R, R = InR w3.heap.size w4.heap.size (w4.heap.size + 1) w5.heap.size := ⟨_, rfl⟩
    have R1 : ∀ k, w3.heap.size ≤ k → k < w4.heap.size → R k := fun k a b => by rw [hR]; exact .inl ⟨a, b⟩
    have R2 : ∀ k, w4.heap.size + 1 ≤ k → k < w5.heap.size → R k := fun k a b => by rw [hR]; exact .inr ⟨a, b⟩
    have R3 : ∀ k, R k → w3.heap.size ≤ k := fun k h => by rw [hR] at h; rcases h with ⟨a, _⟩ | ⟨a, _⟩ <;> omega
    have R4 : ¬ R w.heap.size := fun h => by have := R3 _ h; omega

    have R5 : ¬ R w4.heap.size := fun h => by rw [hR] at h; rcases h with ⟨a, b⟩ | ⟨a, b⟩ <;> omega
    clear hR
    have HM : Hid (∀ w', Mut R w7 w' → RPts w' A0 l0 ∧ OwnR w' w.heap.size w3.heap.size 46 Z V) := fun w' m => ⟨m.rpts P7 (by omega) (fun k hk => by have := R3 k hk; omega), m.ownR Z7 (fun k _ hk hc => by have := R3 k hc; omega)⟩
    have HC : Hid (∀ w', Mut R w7 w' → (w'.cell? ⟨w.heap.size, 0, none⟩ = some (.slice A0 l0.length c0) ∧ w.heap.size < w'.heap.size) ∧ (w'.cell? ⟨w4.heap.size, 0, none⟩ = some (.slice B0 l0.length l0.length) ∧ w4.heap.size < w'.heap.size)) := fun w' m => ⟨⟨(m.cell s2 R4 0).trans f7.1, Nat.lt_of_lt_of_le s2 m.size⟩, ⟨(m.cell s4 R5 0).trans h7.1, Nat.lt_of_lt_of_le s4 m.size⟩⟩
    have hk1 : ¬ ((1 : Int) + 2 * (l0.length : Int) < 0) := by omega
    have hk2 : ¬ ((1 : Int) + 2 * (V.length : Int) < 0) := by omega
    go_wp2_with fail
    refine (markRoom_any _ _ _ w3.heap.size w4.heap.size _ _ (O7.ext (by (repeat (first | exact Ext.refl _ | assumption | apply Ext.alloc | apply Ext.drew | apply Ext.drewN | (refine Ext.trans ?_ (by assumption)))))) hn0 (by omega) (by omega)).mono ?_
    rintro e w8 ⟨rfl, ⟨v8, xv8, cv8⟩, _⟩
    have xv8' : Ext w7 v8 := by (repeat (first | exact Ext.refl _ | assumption | apply Ext.alloc | apply Ext.drew | apply Ext.drewN | (refine Ext.trans ?_ (by assumption))))
    have M8 : Mut R w7 w8 := (Mut.of_ext xv8').chg cv8 R1
    have G8 : OwnR w8 (w4.heap.size + 1) w5.heap.size 46 G V := (G7.ext xv8').chg cv8 (by omega)
    clear xv8 xv8' cv8 f7 h7 G7 O7
    have f8 := HC.out w8 M8
    go_wp2_with fail
    refine (eqIntSS_same _ _ _ _ _ _ ((G8.ext (by (repeat (first | exact Ext.refl _ | assumption | apply Ext.alloc | apply Ext.drew | apply Ext.drewN | (refine Ext.trans ?_ (by assumption)))))).r) ((((HM.out w8 M8).2).ext (by (repeat (first | exact Ext.refl _ | assumption | apply Ext.alloc | apply Ext.drew | apply Ext.drewN | (refine Ext.trans ?_ (by assumption)))))).r) hv).mono ?_
    rintro e w9 ⟨rfl, ex9⟩
    have M9 := M8.ext ex9
    have G9 := G8.ext ex9
    clear f8 M8 G8
    have f9 := HC.out w9 M9
    go_wp2_with fail
    refine (markIntSS_any _ _ _ (w4.heap.size + 1) w5.heap.size _ _ G9 hv (by omega) (by omega)).mono ?_
    rintro e w10 ⟨rfl, cv10, G10⟩
    have M10 : Mut R w7 w10 := M9.chg cv10 R2
    clear cv10 f9 M9 G9 ex9
    have f10 := HC.out w10 M10
    go_wp2_with fail
    refine (heldIntSS_any _ _ _ _ _ ((G10.ext (by (repeat (first | exact Ext.refl _ | assumption | apply Ext.alloc | apply Ext.drew | apply Ext.drewN | (refine Ext.trans ?_ (by assumption)))))).r) hv (by omega) (by omega)).mono ?_
    rintro e w11 ⟨rfl, rfl⟩
    go_wp2_with fail
    refine (toRoom_any _ _ _ _ (((HM.out w10 M10).1).ext (by (repeat (first | exact Ext.refl _ | assumption | apply Ext.alloc | apply Ext.drew | apply Ext.drewN | (refine Ext.trans ?_ (by assumption)))))) hn0).mono ?_
    rintro e w12 ⟨H0, rfl, o12, ex12⟩
    have f12 := HC.out w12 (M10.ext (by (repeat (first | exact Ext.refl _ | assumption | apply Ext.alloc | apply Ext.drew | apply Ext.drewN | (refine Ext.trans ?_ (by assumption))))))
    have p12 := o12.r (Nat.le_refl _)
    go_wp2_with fail
    refine (DiagonalsOf_any _ _ _ _ (p12.ext (by (repeat (first | exact Ext.refl _ | assumption | apply Ext.alloc | apply Ext.drew | apply Ext.drewN | (refine Ext.trans ?_ (by assumption)))))) hn0).mono ?_
    rw [← HV.out]
    rintro e w13 ⟨H, h, rfl, oh, ex13⟩
    have f13 := HC.out w13 (M10.ext (by (repeat (first | exact Ext.refl _ | assumption | apply Ext.alloc | apply Ext.drew | apply Ext.drewN | (refine Ext.trans ?_ (by assumption))))))
    have M14 := M10.ext (show Ext w10 w13 by (repeat (first | exact Ext.refl _ | assumption | apply Ext.alloc | apply Ext.drew | apply Ext.drewN | (refine Ext.trans ?_ (by assumption)))))
    have G14 := G10.ext (show Ext w10 w13 by (repeat (first | exact Ext.refl _ | assumption | apply Ext.alloc | apply Ext.drew | apply Ext.drewN | (refine Ext.trans ?_ (by assumption)))))
    clear f12 f13
    have f14 := HC.out w13 M14
    go_wp2_with fail
    refine (eqIntSS_same _ _ _ _ _ _ ((oh.ext (by (repeat (first | exact Ext.refl _ | assumption | apply Ext.alloc | apply Ext.drew | apply Ext.drewN | (refine Ext.trans ?_ (by assumption)))))).r) ((((HM.out w13 M14).2).ext (by (repeat (first | exact Ext.refl _ | assumption | apply Ext.alloc | apply Ext.drew | apply Ext.drewN | (refine Ext.trans ?_ (by assumption)))))).r) hv).mono ?_
    rintro e w15 ⟨rfl, ex15⟩
    have M15 := M14.ext ex15
    have G15 := G14.ext ex15
    clear f14
    have f15 := HC.out w15 M15
    go_wp2_with fail
    refine (heldIntSS_any _ _ _ _ _ ((G15.ext (by (repeat (first | exact Ext.refl _ | assumption | apply Ext.alloc | apply Ext.drew | apply Ext.drewN | (refine Ext.trans ?_ (by assumption)))))).r) hv (by omega) (by omega)).mono ?_
    rintro e w16 ⟨rfl, rfl⟩
    go_wp2
    go_ret
    exact ⟨rfl, M15.below x07 (fun k hk => by have := R3 k hk; omega)⟩


end Go.Proofs.Ytmccffmkfdcmmaa
