/-
  Contract: the draw of a room and two of its corners.
-/
import Derived.Test.YtjccilpjaaiicaaDrawT
namespace Go.Proofs.Ytjccilpjaaiicaa
open Go.RowKit

set_option maxRecDepth 100000 in
set_option maxHeartbeats 3200000 in
theorem DrawDiagonal_any (B : Option Addr) (n c : Nat) (w : World) (hb : RB w B n) (hn : n ≤ 1048576) :
    Calls Try.prog 12 #[.slice B n c] w fun e w' => ∃ (L : List (Int × Int)) (A : Option Addr) (c' i k : Nat), e = .returned (.tuple #[.agg #[.slice A L.length c'], .int .i64 (i : Int), .int .i64 (k : Int)]) ∧ L.length ≤ c' ∧ Drawn L ∧ (i < L.length ∧ k < L.length) ∧ OwnS w' w.heap.size w'.heap.size 28 A L ∧ Ext w w' := by
  obtain ⟨W0, hW0⟩ : ∃ W0, W0 = w.alloc (.cells #[.slice none 0 0] 26) := ⟨_, rfl⟩
  have x0 : Ext w W0 := by rw [hW0]; (repeat (first | exact Ext.refl _ | assumption | apply Ext.alloc | apply Ext.drew | apply Ext.drewN | (refine Ext.trans ?_ (by assumption))))
  have r0 : OneC W0 w.heap.size 26 (.slice none 0 0) := by rw [hW0]; exact OneC.new w 26 (.slice none 0 0)
  have z0 : W0.heap.size = w.heap.size + 1 := by rw [hW0]; simp
  go_enter Try.func12, Try.ntmps12
  go_wp2_with fail
  rw [← hW0]
  clear hW0
  refine (l01New_any B n c _ (hb.ext x0) hn).mono ?_
  rintro e w1 ⟨rfl, hc1, x1⟩
  have hz1 := x1.size
  obtain ⟨g, hg⟩ : ∃ g, g = W0.heap.size := ⟨_, rfl⟩
  rw [← hg] at hc1
  have hgg : g = w.heap.size + 1 := by rw [hg, z0]
  have hlow : 0 < n → ∀ b off, B = some ⟨b, off, none⟩ → b ≠ g := fun h0 b off e => by
    obtain ⟨b', off', e', h1, _⟩ := hb h0
    rw [e] at e'
    injection e' with e'
    injection e' with e' _
    omega
  have hge : w.heap.size < g := by omega
  rw [← hg]
  have hcl : g < w1.heap.size := by obtain ⟨_, _, h1, _⟩ := hc1; exact heap_lt h1
  have hgs : w.heap.size + 1 ≤ g := by omega
  clear hg hgg hz1
  go_wp2_with fail
  refine (l04Room_any g B n c w1 ⟨hc1, (hb.ext x0).ext x1⟩ hn hlow hcl).mono ?_
  rintro e w2 ⟨L, A, c', rfl, hcap, hD, hO, hcs, on⟩
  have r2 := (r0.ext x1).only on (by omega)
  have s1 := (x0.trans x1).size
  have s2 := on.size
  have bl : Below w.heap.size w w2 := Below.trans (x0.trans x1).below (on.below (by omega) s1)
  obtain ⟨W3, hW3⟩ : ∃ W3, W3 = w2.alloc (.cells #[.slice A L.length c'] 26) := ⟨_, rfl⟩
  obtain ⟨b5, hb5⟩ : ∃ b, b = w2.heap.size := ⟨_, rfl⟩
  have x3 : Ext w2 W3 := by rw [hW3]; (repeat (first | exact Ext.refl _ | assumption | apply Ext.alloc | apply Ext.drew | apply Ext.drewN | (refine Ext.trans ?_ (by assumption))))
  have n5 : OneC W3 b5 26 (.slice A L.length c') := by rw [hW3, hb5]; exact OneC.new _ _ _
  have c3 : CS g B n c W3 := ⟨by rw [hW3]; exact hcs.1.alloc _, hcs.2.ext x3⟩
  have r3 := r2.ext x3
  have bl3 : Below w.heap.size w W3 := Below.trans bl (Below.mono x3.below (by have := bl.size; omega))
  have hO3 : OwnS W3 w.heap.size W3.heap.size 28 A L := (hO.ext x3).more (by have := (x0.trans x1).size; omega) x3.size
  have hb5g : b5 ≠ g := by omega
  have hN3 : 3 ≤ L.length := (roomB_fine hD.facts.1).2
  have hN10 : L.length ≤ 10 := (roomB_fine hD.facts.1).1.2
  have hlt3 := c3.1.lt
  have hOA : ∀ k, A = some ⟨k, 0, none⟩ → 0 < L.length → w1.heap.size ≤ k := fun k e hl => by
    obtain ⟨k', e', h1, _⟩ := hO hl
    rw [e] at e'
    injection e' with e'
    injection e' with e'
    omega
  obtain ⟨N, hN⟩ : ∃ N, L.length = N := ⟨_, rfl⟩
  have HN := hide hN
  rw [hN] at hW3
  have HHW := hide hW3
  have HB5 := hide hb5
  rw [hN] at hcap n5 hN3 hN10 ⊢
  have HX := hide (show ∀ w', DR g B n c W3 w' → Cur w' g B n c ∧ RB w' B n ∧ w'.cell? ⟨b5, 0, none⟩ = some (.slice A N c') ∧ b5 < w'.heap.size from fun w' hx => ⟨hx.2 c3.1, c3.2.only hx.1 hlow, (n5.only hx.1 hb5g).cell.2.1, (n5.only hx.1 hb5g).cell.1⟩)
  have HPR := hide (dr_pre g B n c)
  have HR3 := hide r3
  have HBL := hide bl3
  have HO3 := hide hO3
  have HOA := hide hOA
  have HS := hide (And.intro s1 (And.intro s2 hcl))
  have HCC := hide c3
  have hfr : b5 < W3.heap.size := n5.cell.1
  clear x0 r0 z0 hcl hcs on r2 s1 s2 bl x3 c3 r3 bl3 hO hO3 hOA hlt3 hN hW3 hb5 hc1 x1 hb
  have f5 := HX.out W3 (HPR.out.refl _)
  go_wp2_with fail
  rw [← HHW.out, ← HB5.out]
  obtain ⟨_, _, f51, f52⟩ := f5
  go_wp2
  refine wp_flow_tailT HPR.out 7 (by kernel_rfl) (by kernel_rfl) (by kernel_rfl) (by kernel_rfl) (fun u => ⟨#[_, _, _, _, _, _, _, _, _, _, _, _, _, _, _, u 0, u 1, u 2, u 3, u 4, u 5, u 6], _⟩) (fun i => List.getD [_, _, _, _, _, _, _] i undef) [is ?v1_0, is ?v1_1, is ?v1_2, (NumV N), is ?v1_4, is ?v1_5, (NumV N)] (fun w' => Cur w' g B n c ∧ RB w' B n ∧ w'.cell? ⟨b5, 0, none⟩ = some (.slice A N c') ∧ b5 < w'.heap.size) _ rfl ?hC1 ?hs1 ?hV1 ?fin1
  case hC1 => exact fun w' hx => HX.out w' hx
  case hs1 =>
    repeat' (first
      | exact TSteps.nil
      | refine TSteps.cons ?_ ?_
      | ((first
          | refine TStep.plain rfl ?_)
         intro u w hW hC hd K hK
         (try simp [vOf, is, Region.binds] at hd)
         simp only [upd, Nat.reduceEqDiff, if_true, if_false] at hK
         (try simp only [hd] at hK)
         go_simp
         (first
           | (refine hK _ _ ?_ ?_; (first | exact rfl); (exact HPR.out.refl _))
           | (go_at_call 28; refine (below_cs g B n c N _ ⟨hC.1, hC.2.1⟩ hn hlow (by omega) (by omega)).mono ?_; rintro e w1 ⟨d, hd3, rfl, cs9, o9⟩; (try go_simp); refine hK _ _ ?_ ?_; exact ⟨d, hd3, rfl⟩; exact ⟨o9, fun _ => cs9.1⟩))))
  case hV1 => (simp only [List.forall_mem_cons]; simp [stableT_is, numV_st _ _])
  case fin1 =>
    intro u w2 hW2 hC2 hd
    simp only [AllV, is] at hd
    have hs3 := hd.2.2.2.1
    have hs6 := hd.2.2.2.2.2.2.1
    simp only [List.drop_succ_cons, List.drop_zero]
    simp only [hd]
    clear hd
    obtain ⟨i, hi, hu3⟩ := hs3
    obtain ⟨k, hk, hu6⟩ := hs6
    simp only [hu3, hu6]
    have R := HR3.out.only hW2.1 (show w.heap.size ≠ g by omega)
    have hO2 : OwnS w2 w1.heap.size w2.heap.size 28 A L := ((show OwnS W3 w1.heap.size W3.heap.size 28 A L from fun hl => by
      obtain ⟨k, e, h1, h2, h3⟩ := HO3.out hl
      exact ⟨k, e, HOA.out k e hl, h2, h3⟩).only hW2.1 HS.out.2.2).more (Nat.le_refl _) hW2.1.size
    have hBl : Below w.heap.size w w2 := Below.trans HBL.out (hW2.1.below (by omega) HBL.out.size)
    have HS2 := hide (show w.heap.size + 1 ≤ w1.heap.size by have := HS.out.2.2; omega)
    obtain ⟨y1, y2, y3⟩ := R.cell
    have HO2 := hide hO2
    have HBB := hide hBl
    clear hO2 hBl R HO3 HOA HBL HS HR3 HX HCC HPR hC2 hW2 f51 f52
    go_wp2
    refine bodyPost_ret (v := .tuple #[.agg #[.slice A N c'], .int .i64 (i : Int), .int .i64 (k : Int)]) (by simp [results, Try.results12, go_sem, *]) rfl ?_
    refine ⟨L, A, c', i, k, by rw [HN.out], by rw [HN.out]; exact hcap, hD, by rw [HN.out]; exact ⟨hi, hk⟩, ?_, ?_⟩
    · intro hl
      obtain ⟨q, e, h1, h2, h3⟩ := HO2.out hl
      have hk := HS2.out
      exact ⟨q, e, by omega, by rw [size_setCell]; exact h2, h3.far (p := ⟨w.heap.size, 0, none⟩) (by simp; omega) _⟩
    · exact (show Ext w w2 from HBB.out).setCell (by simp) _

end Go.Proofs.Ytjccilpjaaiicaa
