/-
  Contract: the draw of a room and a point.
-/
import Derived.Test.YtanagdlikoinaaaDrawS
namespace Go.Proofs.Ytanagdlikoinaaa
open Go.RowKit

/-- a point near the origin -/
def NearV (v : Value) (_ : World) : Prop := ∃ x y : Int, ((-2 ≤ x ∧ x ≤ 6) ∧ (-2 ≤ y ∧ y ≤ 6)) ∧ v = .agg #[.int .i64 x, .int .i64 y]
theorem nearV_st (R : World → World → Prop) : StableT R NearV := fun _ _ _ h _ => h
theorem PtC.only {g : Nat} {a b : World} {k : Nat} {x y : Int} (h : PtC a k x y) (ho : Only g a b) (hk : k ≠ g) : PtC b k x y := (ho.block k (heap_lt h) hk).trans h

set_option maxRecDepth 100000 in
set_option maxHeartbeats 3200000 in
theorem DrawPlace_any (B : Option Addr) (n c : Nat) (w : World) (hb : RB w B n) (hn : n ≤ 1048576) :
    Calls Try.prog 20 #[.slice B n c] w fun e w' => ∃ (L : List (Int × Int)) (A : Option Addr) (c' : Nat) (x y : Int), e = .returned (.tuple #[.agg #[.slice A L.length c'], .agg #[.int .i64 x, .int .i64 y]]) ∧ L.length ≤ c' ∧ Drawn L ∧ ((-2 ≤ x ∧ x ≤ 6) ∧ (-2 ≤ y ∧ y ≤ 6)) ∧ OwnS w' w.heap.size w'.heap.size 38 A L ∧ Ext w w' := by
  obtain ⟨W0, hW0⟩ : ∃ W0, W0 = (w.alloc (.cells #[.slice none 0 0] 26)).alloc (.cells #[.int .i64 0, .int .i64 0] 38) := ⟨_, rfl⟩
  have x0 : Ext w W0 := by rw [hW0]; (repeat (first | exact Ext.refl _ | assumption | apply Ext.alloc | apply Ext.drew | apply Ext.drewN | (refine Ext.trans ?_ (by assumption))))
  have r0 : OneC W0 w.heap.size 26 (.slice none 0 0) := by rw [hW0]; exact (OneC.new w 26 (.slice none 0 0)).ext (by (repeat (first | exact Ext.refl _ | assumption | apply Ext.alloc | apply Ext.drew | apply Ext.drewN | (refine Ext.trans ?_ (by assumption)))))
  have z0 : W0.heap.size = w.heap.size + 2 := by rw [hW0]; simp
  have p0 : PtC W0 (w.heap.size + 1) 0 0 := by
    have h := heap_alloc_new (w.alloc (.cells #[.slice none 0 0] 26)) (.cells #[.int .i64 0, .int .i64 0] 38)
    have e : (w.alloc (.cells #[.slice none 0 0] 26)).heap.size = w.heap.size + 1 := by simp
    rw [e] at h
    rw [hW0]; exact h
  go_enter Try.func20, Try.ntmps20
  go_wp2_with fail
  rw [← hW0]
  clear hW0
  refine (l01New_any B n c _ (hb.ext x0) hn).mono ?_
  rintro e w1 ⟨rfl, hc1, x1⟩
  have hz1 := x1.size
  obtain ⟨g, hg⟩ : ∃ g, g = W0.heap.size := ⟨_, rfl⟩
  rw [← hg] at hc1
  have hgg : g = w.heap.size + 2 := by rw [hg, z0]
  have hlow : 0 < n → ∀ b off, B = some ⟨b, off, none⟩ → b ≠ g := fun h0 b off e => by
    obtain ⟨b', off', e', h1, _⟩ := hb h0
    rw [e] at e'
    injection e' with e'
    injection e' with e' _
    omega
  have hge : w.heap.size + 1 < g := by omega
  rw [← hg]
  have hcl : g < w1.heap.size := by obtain ⟨_, _, h1, _⟩ := hc1; exact heap_lt h1
  have hgs : w.heap.size + 2 ≤ g := by omega
  clear hg hgg hz1
  go_wp2_with fail
  refine (l04Room_any g B n c w1 ⟨hc1, (hb.ext x0).ext x1⟩ hn hlow hcl).mono ?_
  rintro e w2 ⟨L, A, c', rfl, hcap, hD, hO, hcs, on⟩
  have r2 := (r0.ext x1).only on (by omega)
  have p2 := (p0.ext x1).only on (by omega)
  have s1 := (x0.trans x1).size
  have s2 := on.size
  have bl : Below w.heap.size w w2 := Below.trans (x0.trans x1).below (on.below (by omega) s1)
  obtain ⟨W3, hW3⟩ : ∃ W3, W3 = w2.alloc (.cells #[.slice A L.length c'] 26) := ⟨_, rfl⟩
  obtain ⟨b5, hb5⟩ : ∃ b, b = w2.heap.size := ⟨_, rfl⟩
  have x3 : Ext w2 W3 := by rw [hW3]; (repeat (first | exact Ext.refl _ | assumption | apply Ext.alloc | apply Ext.drew | apply Ext.drewN | (refine Ext.trans ?_ (by assumption))))
  have n5 : OneC W3 b5 26 (.slice A L.length c') := by rw [hW3, hb5]; exact OneC.new _ _ _
  have c3 : CS g B n c W3 := ⟨by rw [hW3]; exact hcs.1.alloc _, hcs.2.ext x3⟩
  have r3 := r2.ext x3
  have p3 := p2.ext x3
  have bl3 : Below w.heap.size w W3 := Below.trans bl (Below.mono x3.below (by have := bl.size; omega))
  have hO3 : OwnS W3 w.heap.size W3.heap.size 38 A L := (hO.ext x3).more (by have := (x0.trans x1).size; omega) x3.size
  have hb5g : b5 ≠ g := by omega
  have hlt3 := c3.1.lt
  have hOA : ∀ k, A = some ⟨k, 0, none⟩ → 0 < L.length → w1.heap.size ≤ k := fun k e hl => by
    obtain ⟨k', e', h1, _⟩ := hO hl
    rw [e] at e'
    injection e' with e'
    injection e' with e'
    omega
  obtain ⟨N, hN⟩ : ∃ N, L.length = N := ⟨_, rfl⟩
  have HN := hide hN
  rw [hN] at hW3
  have HHW := hide hW3
  have HB5 := hide hb5
  rw [hN] at hcap n5 ⊢
  have HX := hide (show ∀ w', DR g B n c W3 w' → Cur w' g B n c ∧ RB w' B n ∧ w'.cell? ⟨b5, 0, none⟩ = some (.slice A N c') ∧ b5 < w'.heap.size from fun w' hx => ⟨hx.2 c3.1, c3.2.only hx.1 hlow, (n5.only hx.1 hb5g).cell.2.1, (n5.only hx.1 hb5g).cell.1⟩)
  have HPR := hide (dr_pre g B n c)
  have HR3 := hide r3
  have HP3 := hide p3
  have HBL := hide bl3
  have HO3 := hide hO3
  have HOA := hide hOA
  have HS := hide (And.intro s1 (And.intro s2 hcl))
  have HCC := hide c3
  have hfr : b5 < W3.heap.size := n5.cell.1
  clear x0 r0 p0 z0 hcl hcs on r2 p2 s1 s2 bl x3 c3 r3 p3 bl3 hO hO3 hOA hlt3 hN hW3 hb5 hc1 x1 hb
  go_wp2_with fail
  rw [← HHW.out, ← HB5.out]
  refine wp_flow_tailT HPR.out 3 (by kernel_rfl) (by kernel_rfl) (by kernel_rfl) (by kernel_rfl) (fun u => ⟨#[_, _, _, _, _, _, _, _, _, _, u 0, u 1, u 2], _⟩) (fun i => List.getD [_, _, _] i undef) [is ?v1_0, is ?v1_1, (NearV)] (fun w' => Cur w' g B n c ∧ RB w' B n ∧ w'.cell? ⟨b5, 0, none⟩ = some (.slice A N c') ∧ b5 < w'.heap.size) _ rfl ?hC1 ?hs1 ?hV1 ?fin1
  case hC1 => exact fun w' hx => HX.out w' hx
  case hs1 =>
    repeat' (first
      | exact TSteps.nil
      | refine TSteps.cons ?_ ?_
      | ((first
          | refine TStep.plain rfl ?_)
         intro u w hW hC hd K hK
         (try simp [vOf, is, Region.binds] at hd)
         simp only [upd, Nat.reduceEqDiff, if_true, if_false] at hK
         (try simp only [hd] at hK)
         go_simp
         (first
           | (refine hK _ _ ?_ ?_; (first | exact rfl); (exact HPR.out.refl _))
           | (go_at_call 38; refine (l02Point_any g B n c _ hC.1 hC.2.1 hn hlow hC.1.lt).mono ?_; rintro e w1 ⟨x3, y3, hb3, rfl, hc1, o1⟩; (try go_simp); refine hK _ _ ?_ ?_; exact ⟨x3, y3, hb3, rfl⟩; exact ⟨o1, fun _ => hc1⟩))))
  case hV1 => (simp only [List.forall_mem_cons]; simp [stableT_is, nearV_st _])
  case fin1 =>
    intro u w2 hW2 hC2 hd
    simp only [AllV, is] at hd
    have hs2 := hd.2.2.1
    simp only [List.drop_succ_cons, List.drop_zero]
    simp only [hd]
    clear hd
    obtain ⟨x, y, hxy, hu2⟩ := hs2
    simp only [hu2]
    have R := HR3.out.only hW2.1 (show w.heap.size ≠ g by omega)
    have Pq := HP3.out.only hW2.1 (show w.heap.size + 1 ≠ g by omega)
    have hO2 : OwnS w2 w.heap.size w2.heap.size 38 A L := ((show OwnS W3 w1.heap.size W3.heap.size 38 A L from fun hl => by
      obtain ⟨k, e, h1, h2, h3⟩ := HO3.out hl
      exact ⟨k, e, HOA.out k e hl, h2, h3⟩).only hW2.1 HS.out.2.2).more (by have := HS.out.1; omega) hW2.1.size
    have hBl : Below w.heap.size w w2 := Below.trans HBL.out (hW2.1.below (by omega) HBL.out.size)
    have hk2 : ∀ k, A = some ⟨k, 0, none⟩ → 0 < L.length → w.heap.size + 2 ≤ k := fun k e hl => by
      have h1 := HOA.out k e hl
      have h2 := HS.out.2.2
      omega
    obtain ⟨y1, y2, y3⟩ := R.cell
    obtain ⟨q1, q2, q3, q4, q5⟩ := Pq.cells
    have HO2 := hide hO2
    have HK2 := hide hk2
    have HBB := hide hBl
    have hne1 : ¬ w.heap.size = w.heap.size + 1 := by omega
    have hne2 : ¬ w.heap.size + 1 = w.heap.size := by omega
    clear hO2 hk2 hBl R Pq HO3 HOA HBL HS HR3 HP3 HX HCC HPR hC2 hW2
    go_wp2
    refine bodyPost_ret (v := .tuple #[.agg #[.slice A N c'], .agg #[.int .i64 x, .int .i64 y]]) (by simp [results, Try.results20, go_sem, *]) rfl ?_
    refine ⟨L, A, c', x, y, by rw [HN.out], by rw [HN.out]; exact hcap, hD, hxy, ?_, ?_⟩
    · intro hl
      obtain ⟨k, e, h1, h2, h3⟩ := HO2.out hl
      have hk := HK2.out k e hl
      exact ⟨k, e, h1, by rw [size_setCell, size_setCell, size_setCell]; exact h2, ((h3.far (p := ⟨w.heap.size, 0, none⟩) (by simp; omega) _).far (p := ⟨w.heap.size + 1, 0, none⟩) (by simp; omega) _).far (p := ⟨w.heap.size + 1, 1, none⟩) (by simp; omega) _⟩
    · exact (((show Ext w w2 from HBB.out).setCell (by simp) _).setCell (by simp) _).setCell (by simp) _

end Go.Proofs.Ytanagdlikoinaaa
