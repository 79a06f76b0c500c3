/-
  Contracts: CornerAt.
-/
import Derived.Test.YtlghppkifccakaaCor2
namespace Go.Proofs.Ytlghppkifccakaa
open Go.RowKit

theorem tmod_twice (k n : Int) (hn : 0 < n) : (k.tmod n + n).tmod n = k % n := by
  have h1 := Int.emod_nonneg k (show n ≠ 0 by omega)
  have h2 := Int.emod_lt_of_pos k hn
  rcases tmod_cases k n hn with ⟨a, b⟩ | ⟨a, b⟩
  · rw [b, Int.tmod_eq_emod_of_nonneg h1, Int.emod_eq_of_lt h1 h2]
  · rw [b, Int.tmod_eq_emod_of_nonneg (by omega), Int.add_emod_right, Int.emod_eq_of_lt h1 h2]

set_option maxRecDepth 100000 in
set_option maxHeartbeats 1600000 in
theorem CornerAt_any (A : Option Addr) (l : List (Int × Int)) (c : Nat) (k : Int) (w : World) (hp : RPts w A l) (hn : l.length ≤ 1048576) :
    Calls Try.prog 30 #[.agg #[.slice A l.length c], .int .i64 k] w fun e w' => e = .returned (.agg #[.int .i64 (cX l k), .int .i64 (cY l k)]) ∧ Ext w w' := by
  by_cases h0 : l.length = 0
  · have e : l = [] := List.eq_nil_of_length_eq_zero h0
    subst e
    have HB : Hid (∀ w', Ext ((w.alloc (.cells #[.slice A 0 c] 41)).alloc (.cells #[.int .i64 0, .int .i64 0] 27)) w' → w'.cell? ⟨w.heap.size, 0, none⟩ = some (.slice A 0 c) ∧ w.heap.size < w'.heap.size ∧ w'.cell? ⟨w.heap.size + 1, 0, none⟩ = some (.int .i64 0) ∧ w'.frozen? ⟨w.heap.size + 1, 0, none⟩ = false ∧ w'.cell? ⟨w.heap.size + 1, 1, none⟩ = some (.int .i64 0) ∧ w'.frozen? ⟨w.heap.size + 1, 1, none⟩ = false ∧ w.heap.size + 1 < w'.heap.size) := fun w' hx => by
      and_intros <;> (first | (have hz := hx.size; simp at hz; omega) | ((first | rw [hx.cells _ _ (by first | (simp; done) | (simp; omega))] | rw [hx.frozens _ _ (by first | (simp; done) | (simp; omega))]); (first | (simp [go_sem]; done) | (simp [go_sem, World.cell?_alloc_past]; done) | (simp [go_sem, World.frozen?]; done))))
    clear h0
    go_enter Try.func30, Try.ntmps30
    go_wp2
    exact bodyPost_ret (v := .agg #[.int .i64 0, .int .i64 0]) (by simp [results, Try.results30, go_sem]) rfl ⟨rfl, by (repeat (first | exact Ext.refl _ | assumption | apply Ext.alloc | apply Ext.drew | apply Ext.drewN | (refine Ext.setCell ?_ (by simp; done) _) | (refine Ext.setCell ?_ (by simp; omega) _) | (refine Ext.trans ?_ (by assumption))))⟩
  · obtain ⟨b, off, rfl⟩ := hp.some_ (by omega)
    have HB : Hid (∀ w', Ext ((w.alloc (.cells #[.slice (some ⟨b, off, none⟩) l.length c] 41)).alloc (.cells #[.int .i64 0, .int .i64 0] 27)) w' → w'.cell? ⟨w.heap.size, 0, none⟩ = some (.slice (some ⟨b, off, none⟩) l.length c) ∧ w.heap.size < w'.heap.size ∧ w'.cell? ⟨w.heap.size + 1, 0, none⟩ = some (.int .i64 0) ∧ w'.frozen? ⟨w.heap.size + 1, 0, none⟩ = false ∧ w'.cell? ⟨w.heap.size + 1, 1, none⟩ = some (.int .i64 0) ∧ w'.frozen? ⟨w.heap.size + 1, 1, none⟩ = false ∧ w.heap.size + 1 < w'.heap.size) := fun w' hx => by
      and_intros <;> (first | (have hz := hx.size; simp at hz; omega) | ((first | rw [hx.cells _ _ (by first | (simp; done) | (simp; omega))] | rw [hx.frozens _ _ (by first | (simp; done) | (simp; omega))]); (first | (simp [go_sem]; done) | (simp [go_sem, World.cell?_alloc_past]; done) | (simp [go_sem, World.frozen?]; done))))
    have hne : l ≠ [] := fun e => by rw [e] at h0; simp at h0
    have hz0 : ((l.length : Int) == 0) = false := by simp [hne]
    have hcok : cOk l k = inB k (-1000) 1000 := by simp [cOk, h0]
    unfold cX cY
    rw [hcok]
    clear hcok
    cases hi : inB k (-1000) 1000
    · go_enter Try.func30, Try.ntmps30
      go_wp2_with (go_at_call 55; refine (between_any _ _ _ _).mono ?_; rintro e w1 ⟨rfl, rfl⟩)
      exact bodyPost_ret (v := .agg #[.int .i64 0, .int .i64 0]) (by simp [results, Try.results30, go_sem]) rfl ⟨rfl, by (repeat (first | exact Ext.refl _ | assumption | apply Ext.alloc | apply Ext.drew | apply Ext.drewN | (refine Ext.setCell ?_ (by simp; done) _) | (refine Ext.setCell ?_ (by simp; omega) _) | (refine Ext.trans ?_ (by assumption))))⟩
    · obtain ⟨k1, k2⟩ := (inB_iff _ _ _).1 hi
      obtain ⟨m1, m2⟩ := cIdx_lt (k := k) (show 0 < l.length by omega)
      obtain ⟨hz, hx0, hy0⟩ := hp.cell m2
      generalize cIdx l k = m at *
      have m3 : k % (l.length : Int) = (m : Int) := m1.symm
      clear m1
      have i1 : (0 : Int) ≤ (m : Int) := by omega
      have i2 : (m : Int) < (l.length : Int) := by omega
      have hz3 : b < w.heap.size + 1 + 1 := by omega
      go_enter Try.func30, Try.ntmps30
      go_wp2_with (go_at_call 55; refine (between_any _ _ _ _).mono ?_; rintro e w1 ⟨rfl, rfl⟩)
      refine wp_flow_tail 9 (by kernel_rfl) (by kernel_rfl) (by kernel_rfl) (by kernel_rfl) (fun u => ⟨#[_, _, _, _, _, _, _, _, _, _, _, _, _, _, _, u 0, u 1, u 2, u 3, u 4, u 5, u 6, u 7, u 8], _⟩) (fun i => List.getD [_, _, _, _, _, _, _, _, _] i undef) [is ?v7_0, is ?v7_1, is ?v7_2, is ?v7_3, is ?v7_4, is ?v7_5, is ?v7_6, is ?v7_7, is ?v7_8] (fun w' => w'.cell? ⟨w.heap.size, 0, none⟩ = some (.slice (some ⟨b, off, none⟩) l.length c) ∧ w.heap.size < w'.heap.size ∧ w'.cell? ⟨w.heap.size + 1, 0, none⟩ = some (.int .i64 0) ∧ w'.frozen? ⟨w.heap.size + 1, 0, none⟩ = false ∧ w'.cell? ⟨w.heap.size + 1, 1, none⟩ = some (.int .i64 0) ∧ w'.frozen? ⟨w.heap.size + 1, 1, none⟩ = false ∧ w.heap.size + 1 < w'.heap.size ∧ w'.cell? ⟨b, off + m * 2, none⟩ = some (.int .i64 (gx l (m))) ∧ w'.cell? ⟨b, off + m * 2 + 1, none⟩ = some (.int .i64 (gy l (m)))) _ rfl ?hC7 ?hs7 ?hV7 ?fin7
      case hC7 => exact fun w' hx => (by have hq : Ext _ w' := hx; have hf0 := HB.out w' (by (repeat (first | exact Ext.refl _ | assumption | apply Ext.alloc | apply Ext.drew | apply Ext.drewN | (refine Ext.trans ?_ (by assumption))))); and_intros <;> first | exact hf0 | exact hf0.1 | exact hf0.2.1 | exact hf0.2.2.1 | exact hf0.2.2.2.1 | exact hf0.2.2.2.2.1 | exact hf0.2.2.2.2.2.1 | exact hf0.2.2.2.2.2.2.1 | exact hf0.2.2.2.2.2.2.2.1 | exact hf0.2.2.2.2.2.2.2.2.1 | exact hf0.2.2.2.2.2.2.2.2.2.1 | exact hf0.2.2.2.2.2.2.2.2.2.2.1 | exact hf0.2.2.2.2.2.2.2.2.2.2.2.1 | exact hf0.2.2.2.2.2.2.2.2.2.2.2.2.1 | exact hf0.2.2.2.2.2.2.2.2.2.2.2.2.2.1 | exact hf0.2 | exact hf0.2.2 | exact hf0.2.2.2 | exact hf0.2.2.2.2 | exact hf0.2.2.2.2.2 | exact hf0.2.2.2.2.2.2 | exact hf0.2.2.2.2.2.2.2 | exact hf0.2.2.2.2.2.2.2.2 | exact hf0.2.2.2.2.2.2.2.2.2 | exact hf0.2.2.2.2.2.2.2.2.2.2 | exact hf0.2.2.2.2.2.2.2.2.2.2.2 | exact hf0.2.2.2.2.2.2.2.2.2.2.2.2 | exact hf0.2.2.2.2.2.2.2.2.2.2.2.2.2 | exact ((hp.ext (Ext.trans (by (repeat (first | exact Ext.refl _ | assumption | apply Ext.alloc | apply Ext.drew | apply Ext.drewN | (refine Ext.trans ?_ (by assumption))))) hq)).cell m2).2.1 | exact ((hp.ext (Ext.trans (by (repeat (first | exact Ext.refl _ | assumption | apply Ext.alloc | apply Ext.drew | apply Ext.drewN | (refine Ext.trans ?_ (by assumption))))) hq)).cell m2).2.2)
      case hs7 =>
        repeat' (first
          | exact FSteps.nil
          | refine FSteps.cons ?_ ?_
          | (refine FStep.off_ _ _ _ rfl rfl ?_ (fun _ => rfl) ?_; (focus (intro u w hd; simp [vOf, is, Region.binds] at hd; simp [hd])); (intro w'; exact rfl); done)
          | ((first
              | refine FStep.plain rfl ?_
              | (refine FStep.on_ _ _ _ rfl rfl ?_ ?_; (focus (intro u w hd; simp [vOf, is, Region.binds] at hd; simp [hd]))))
             intro u w hW hC hd K hK
             (try simp [vOf, is, Region.binds] at hd)
             simp only [upd, Nat.reduceEqDiff, if_true, if_false] at hK
             (try simp only [hd] at hK)
             go_simp
             (first
               | (refine hK _ _ ?_ ?_; (first | exact rfl); (repeat (first | exact Ext.refl _ | assumption | apply Ext.alloc | apply Ext.drew | apply Ext.drewN | (refine Ext.trans ?_ (by assumption)))))
               | (go_at_call 56; refine (modulo_any _ _ _ (by omega) (by omega) (by omega) (by omega)).mono ?_; rw [m3]; rintro e w1 ⟨rfl, rfl⟩; (try go_simp); refine hK _ _ ?_ ?_; exact rfl; (repeat (first | exact Ext.refl _ | assumption | apply Ext.alloc | apply Ext.drew | apply Ext.drewN | (refine Ext.trans ?_ (by assumption))))))))
      case hV7 => (simp only [List.forall_mem_cons]; simp [stable_is])
      case fin7 =>
        intro u w2 hW2 hC2 hd
        simp only [AllV, is] at hd
        simp only [List.drop_succ_cons, List.drop_zero]
        simp only [hd]
        clear hd
        go_wp2
        exact bodyPost_ret (v := .agg #[.int .i64 (gx l m), .int .i64 (gy l m)]) (by simp [results, Try.results30, go_sem, hC2]) rfl ⟨rfl, by (repeat (first | exact Ext.refl _ | assumption | apply Ext.alloc | apply Ext.drew | apply Ext.drewN | (refine Ext.setCell ?_ (by simp; done) _) | (refine Ext.setCell ?_ (by simp; omega) _) | (refine Ext.trans ?_ (by assumption))))⟩

set_option maxRecDepth 100000 in
set_option maxHeartbeats 1600000 in
theorem sCornerAt_any (A : Option Addr) (l : List (Int × Int)) (c : Nat) (k : Int) (w : World) (hp : RPts w A l) (hn : l.length ≤ 1048576) :
    Calls Try.prog 29 #[.agg #[.slice A l.length c], .int .i64 k] w fun e w' => e = .returned (.agg #[.int .i64 (cX l k), .int .i64 (cY l k)]) ∧ Ext w w' := by
  by_cases h0 : l.length = 0
  · have e : l = [] := List.eq_nil_of_length_eq_zero h0
    subst e
    have HB : Hid (∀ w', Ext ((w.alloc (.cells #[.slice A 0 c] 41)).alloc (.cells #[.int .i64 0, .int .i64 0] 27)) w' → w'.cell? ⟨w.heap.size, 0, none⟩ = some (.slice A 0 c) ∧ w.heap.size < w'.heap.size ∧ w'.cell? ⟨w.heap.size + 1, 0, none⟩ = some (.int .i64 0) ∧ w'.frozen? ⟨w.heap.size + 1, 0, none⟩ = false ∧ w'.cell? ⟨w.heap.size + 1, 1, none⟩ = some (.int .i64 0) ∧ w'.frozen? ⟨w.heap.size + 1, 1, none⟩ = false ∧ w.heap.size + 1 < w'.heap.size) := fun w' hx => by
      and_intros <;> (first | (have hz := hx.size; simp at hz; omega) | ((first | rw [hx.cells _ _ (by first | (simp; done) | (simp; omega))] | rw [hx.frozens _ _ (by first | (simp; done) | (simp; omega))]); (first | (simp [go_sem]; done) | (simp [go_sem, World.cell?_alloc_past]; done) | (simp [go_sem, World.frozen?]; done))))
    clear h0
    go_enter Try.func29, Try.ntmps29
    go_wp2
    exact bodyPost_ret (v := .agg #[.int .i64 0, .int .i64 0]) (by simp [results, Try.results29, go_sem]) rfl ⟨rfl, by (repeat (first | exact Ext.refl _ | assumption | apply Ext.alloc | apply Ext.drew | apply Ext.drewN | (refine Ext.setCell ?_ (by simp; done) _) | (refine Ext.setCell ?_ (by simp; omega) _) | (refine Ext.trans ?_ (by assumption))))⟩
  · obtain ⟨b, off, rfl⟩ := hp.some_ (by omega)
    have HB : Hid (∀ w', Ext ((w.alloc (.cells #[.slice (some ⟨b, off, none⟩) l.length c] 41)).alloc (.cells #[.int .i64 0, .int .i64 0] 27)) w' → w'.cell? ⟨w.heap.size, 0, none⟩ = some (.slice (some ⟨b, off, none⟩) l.length c) ∧ w.heap.size < w'.heap.size ∧ w'.cell? ⟨w.heap.size + 1, 0, none⟩ = some (.int .i64 0) ∧ w'.frozen? ⟨w.heap.size + 1, 0, none⟩ = false ∧ w'.cell? ⟨w.heap.size + 1, 1, none⟩ = some (.int .i64 0) ∧ w'.frozen? ⟨w.heap.size + 1, 1, none⟩ = false ∧ w.heap.size + 1 < w'.heap.size) := fun w' hx => by
      and_intros <;> (first | (have hz := hx.size; simp at hz; omega) | ((first | rw [hx.cells _ _ (by first | (simp; done) | (simp; omega))] | rw [hx.frozens _ _ (by first | (simp; done) | (simp; omega))]); (first | (simp [go_sem]; done) | (simp [go_sem, World.cell?_alloc_past]; done) | (simp [go_sem, World.frozen?]; done))))
    have hne : l ≠ [] := fun e => by rw [e] at h0; simp at h0
    have hz0 : ((l.length : Int) == 0) = false := by simp [hne]
    have hcok : cOk l k = inB k (-1000) 1000 := by simp [cOk, h0]
    unfold cX cY
    rw [hcok]
    clear hcok
    cases hi : inB k (-1000) 1000
    · go_enter Try.func29, Try.ntmps29
      go_wp2_with (go_at_call 54; refine (l01In_any _ _ _ _).mono ?_; rintro e w1 ⟨rfl, rfl⟩)
      exact bodyPost_ret (v := .agg #[.int .i64 0, .int .i64 0]) (by simp [results, Try.results29, go_sem]) rfl ⟨rfl, by (repeat (first | exact Ext.refl _ | assumption | apply Ext.alloc | apply Ext.drew | apply Ext.drewN | (refine Ext.setCell ?_ (by simp; done) _) | (refine Ext.setCell ?_ (by simp; omega) _) | (refine Ext.trans ?_ (by assumption))))⟩
    · obtain ⟨k1, k2⟩ := (inB_iff _ _ _).1 hi
      obtain ⟨m1, m2⟩ := cIdx_lt (k := k) (show 0 < l.length by omega)
      obtain ⟨hz, hx0, hy0⟩ := hp.cell m2
      have e2 := tmod_twice k l.length (by omega)
      have hb1 := Int.emod_nonneg k (show (l.length : Int) ≠ 0 by omega)
      have hb2 := Int.emod_lt_of_pos k (show 0 < (l.length : Int) by omega)
      have e3 : IntKind.i64.wrap (k.tmod l.length) = k.tmod l.length ∧ IntKind.i64.wrap (k.tmod l.length + l.length) = k.tmod l.length + l.length := by
        rcases tmod_cases k l.length (by omega) with ⟨a1, a2⟩ | ⟨a1, a2⟩ <;> exact ⟨wrap_in _ (by omega) (by omega), wrap_in _ (by omega) (by omega)⟩
      obtain ⟨e3, e4⟩ := e3
      rw [← m1] at e2
      clear hb1 hb2
      generalize cIdx l k = m at *
      clear m1
      have i1 : (0 : Int) ≤ (m : Int) := by omega
      have i2 : (m : Int) < (l.length : Int) := by omega
      have hz3 : b < w.heap.size + 1 + 1 := by omega
      go_enter Try.func29, Try.ntmps29
      go_wp2_with (go_at_call 54; refine (l01In_any _ _ _ _).mono ?_; rintro e w1 ⟨rfl, rfl⟩)
      refine wp_flow_tail 11 (by kernel_rfl) (by kernel_rfl) (by kernel_rfl) (by kernel_rfl) (fun u => ⟨#[_, _, _, _, _, _, _, _, _, _, _, _, _, _, _, _, _, u 0, u 1, u 2, u 3, u 4, u 5, u 6, u 7, u 8, u 9, u 10], _⟩) (fun i => List.getD [_, _, _, _, _, _, _, _, _, _, _] i undef) [is ?v8_0, is ?v8_1, is ?v8_2, is ?v8_3, is ?v8_4, is ?v8_5, is ?v8_6, is ?v8_7, is ?v8_8, is ?v8_9, is ?v8_10] (fun w' => w'.cell? ⟨w.heap.size, 0, none⟩ = some (.slice (some ⟨b, off, none⟩) l.length c) ∧ w.heap.size < w'.heap.size ∧ w'.cell? ⟨w.heap.size + 1, 0, none⟩ = some (.int .i64 0) ∧ w'.frozen? ⟨w.heap.size + 1, 0, none⟩ = false ∧ w'.cell? ⟨w.heap.size + 1, 1, none⟩ = some (.int .i64 0) ∧ w'.frozen? ⟨w.heap.size + 1, 1, none⟩ = false ∧ w.heap.size + 1 < w'.heap.size ∧ w'.cell? ⟨b, off + m * 2, none⟩ = some (.int .i64 (gx l (m))) ∧ w'.cell? ⟨b, off + m * 2 + 1, none⟩ = some (.int .i64 (gy l (m)))) _ rfl ?hC8 ?hs8 ?hV8 ?fin8
      case hC8 => exact fun w' hx => (by have hq : Ext _ w' := hx; have hf0 := HB.out w' (by (repeat (first | exact Ext.refl _ | assumption | apply Ext.alloc | apply Ext.drew | apply Ext.drewN | (refine Ext.trans ?_ (by assumption))))); and_intros <;> first | exact hf0 | exact hf0.1 | exact hf0.2.1 | exact hf0.2.2.1 | exact hf0.2.2.2.1 | exact hf0.2.2.2.2.1 | exact hf0.2.2.2.2.2.1 | exact hf0.2.2.2.2.2.2.1 | exact hf0.2.2.2.2.2.2.2.1 | exact hf0.2.2.2.2.2.2.2.2.1 | exact hf0.2.2.2.2.2.2.2.2.2.1 | exact hf0.2.2.2.2.2.2.2.2.2.2.1 | exact hf0.2.2.2.2.2.2.2.2.2.2.2.1 | exact hf0.2.2.2.2.2.2.2.2.2.2.2.2.1 | exact hf0.2.2.2.2.2.2.2.2.2.2.2.2.2.1 | exact hf0.2 | exact hf0.2.2 | exact hf0.2.2.2 | exact hf0.2.2.2.2 | exact hf0.2.2.2.2.2 | exact hf0.2.2.2.2.2.2 | exact hf0.2.2.2.2.2.2.2 | exact hf0.2.2.2.2.2.2.2.2 | exact hf0.2.2.2.2.2.2.2.2.2 | exact hf0.2.2.2.2.2.2.2.2.2.2 | exact hf0.2.2.2.2.2.2.2.2.2.2.2 | exact hf0.2.2.2.2.2.2.2.2.2.2.2.2 | exact hf0.2.2.2.2.2.2.2.2.2.2.2.2.2 | exact ((hp.ext (Ext.trans (by (repeat (first | exact Ext.refl _ | assumption | apply Ext.alloc | apply Ext.drew | apply Ext.drewN | (refine Ext.trans ?_ (by assumption))))) hq)).cell m2).2.1 | exact ((hp.ext (Ext.trans (by (repeat (first | exact Ext.refl _ | assumption | apply Ext.alloc | apply Ext.drew | apply Ext.drewN | (refine Ext.trans ?_ (by assumption))))) hq)).cell m2).2.2)
      case hs8 =>
        repeat' (first
          | exact FSteps.nil
          | refine FSteps.cons ?_ ?_
          | (refine FStep.off_ _ _ _ rfl rfl ?_ (fun _ => rfl) ?_; (focus (intro u w hd; simp [vOf, is, Region.binds] at hd; simp [hd])); (intro w'; exact rfl); done)
          | ((first
              | refine FStep.plain rfl ?_
              | (refine FStep.on_ _ _ _ rfl rfl ?_ ?_; (focus (intro u w hd; simp [vOf, is, Region.binds] at hd; simp [hd]))))
             intro u w hW hC hd K hK
             (try simp [vOf, is, Region.binds] at hd)
             simp only [upd, Nat.reduceEqDiff, if_true, if_false] at hK
             (try simp only [hd] at hK)
             go_simp
             (first
               | (refine hK _ _ ?_ ?_; (first | exact rfl); (repeat (first | exact Ext.refl _ | assumption | apply Ext.alloc | apply Ext.drew | apply Ext.drewN | (refine Ext.trans ?_ (by assumption))))))))
      case hV8 => (simp only [List.forall_mem_cons]; simp [stable_is])
      case fin8 =>
        intro u w2 hW2 hC2 hd
        simp only [AllV, is] at hd
        simp only [List.drop_succ_cons, List.drop_zero]
        simp only [hd]
        clear hd
        go_wp2
        exact bodyPost_ret (v := .agg #[.int .i64 (gx l m), .int .i64 (gy l m)]) (by simp [results, Try.results29, go_sem, hC2]) rfl ⟨rfl, by (repeat (first | exact Ext.refl _ | assumption | apply Ext.alloc | apply Ext.drew | apply Ext.drewN | (refine Ext.setCell ?_ (by simp; done) _) | (refine Ext.setCell ?_ (by simp; omega) _) | (refine Ext.trans ?_ (by assumption))))⟩

end Go.Proofs.Ytlghppkifccakaa
