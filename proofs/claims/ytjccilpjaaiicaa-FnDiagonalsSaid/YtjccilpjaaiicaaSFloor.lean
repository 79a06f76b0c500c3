/-
  Contract: the reference's FloorPoints.
-/
import Derived.Test.YtjccilpjaaiicaaJ6
import Derived.Test.YtjccilpjaaiicaaJ3
namespace Go.Proofs.Ytjccilpjaaiicaa
open Go.RowKit

theorem Two.grown {w w' : World} {b : Nat} {T : TypeId} {x y : Int} {row : Option Nat} (h : Two w b T x y) (hg : w.grownBy w' row) (hr : row ≠ some b) : Two w' b T x y := (hg.block b (heap_lt h) (fun e => hr e.symm)).trans h
theorem Two.set0 {w : World} {b : Nat} {T : TypeId} {x y : Int} (h : Two w b T x y) (x' : Int) : Two (w.setCell ⟨b, 0, none⟩ (.int .i64 x')) b T x' y := by
  unfold Two at *
  simp [World.setCell, Array.getElem?_modify, h]
theorem Two.set1 {w : World} {b : Nat} {T : TypeId} {x y : Int} (h : Two w b T x y) (y' : Int) : Two (w.setCell ⟨b, 1, none⟩ (.int .i64 y')) b T x y' := by
  unfold Two at *
  simp [World.setCell, Array.getElem?_modify, h]


set_option maxRecDepth 100000 in
set_option maxHeartbeats 8000000 in
theorem sFloorPoints_any (A : Option Addr) (l : List (Int × Int)) (c : Nat) (w : World) (hp : RPts w A l) (hn : l.length ≤ 1048576) :
    Calls Try.prog 39 #[.agg #[.slice A l.length c]] w (RetP 28 (floorV l) w) := by
  have HB : Hid (∀ w', Ext (w.alloc (.cells #[.slice A l.length c] 26)) w' → w'.cell? ⟨w.heap.size, 0, none⟩ = some (.slice A l.length c) ∧ w.heap.size < w'.heap.size) := fun w' hx => by
    and_intros <;> (first | (have hz := hx.size; simp at hz; omega) | ((first | rw [hx.cells _ _ (by first | (simp; done) | (simp; omega))] | rw [hx.frozens _ _ (by first | (simp; done) | (simp; omega))]); (first | (simp [go_sem]; done) | (simp [go_sem, World.cell?_alloc_past]; done) | (simp [go_sem, World.frozen?]; done))))
  cases hr : roomB l
  · have HV := hide (show floorV l = [] by simp [floorV, hr])
    go_enter Try.func39, Try.ntmps39
    go_wp2_with (go_at_call 38; refine (sRoomOk_any _ _ _ _ (hp.ext (by (repeat (first | exact Ext.refl _ | assumption | apply Ext.alloc | apply Ext.drew | apply Ext.drewN | (refine Ext.trans ?_ (by assumption)))))) hn).mono ?_; rw [hr]; rintro e w1 ⟨rfl, hb1⟩)
    go_ret
    exact ⟨some ⟨w.heap.size + 1, 0, none⟩, 0, by rw [HV.out]; rfl, by rw [HV.out]; exact OwnS.nil, by (repeat (first | exact Ext.refl _ | assumption | apply Ext.alloc | apply Ext.drew | apply Ext.drewN | (refine Ext.trans ?_ (by assumption))))⟩
  · have HV := hide (show floorV l = floorL l by simp [floorV, hr])
    obtain ⟨hf, h3⟩ := roomB_fine hr
    obtain ⟨i0, hI, hZ, hS, hY⟩ := info_parts info_ipt
    obtain ⟨b, off, rfl⟩ := hp.some_ (by omega)
    clear HB
    have HC : Hid (∀ w', Ext (w.alloc (.cells #[.slice (some ⟨b, off, none⟩) l.length c] 26)) w' → w'.cell? ⟨w.heap.size, 0, none⟩ = some (.slice (some ⟨b, off, none⟩) l.length c) ∧ w.heap.size < w'.heap.size) := fun w' hx => by
      and_intros <;> (first | (have hz := hx.size; simp at hz; omega) | ((first | rw [hx.cells _ _ (by first | (simp; done) | (simp; omega))] | rw [hx.frozens _ _ (by first | (simp; done) | (simp; omega))]); (first | (simp [go_sem]; done) | (simp [go_sem, World.cell?_alloc_past]; done) | (simp [go_sem, World.frozen?]; done))))
    have hbd := fun k hk => box_bd hf (show 0 < l.length by omega) k hk
    have HBD := hide hbd
    have h10 := hf.2
    clear hbd
    have hl1 : (0 : Int) < (l.length : Int) := by omega
    go_enter Try.func39, Try.ntmps39
    go_wp2_with (go_at_call 38; refine (sRoomOk_any _ _ _ _ (hp.ext (by (repeat (first | exact Ext.refl _ | assumption | apply Ext.alloc | apply Ext.drew | apply Ext.drewN | (refine Ext.trans ?_ (by assumption)))))) hn).mono ?_; rw [hr]; rintro e w1 ⟨rfl, hb1⟩; have f1 := HC.out w1 (by (repeat (first | exact Ext.refl _ | assumption | apply Ext.alloc | apply Ext.drew | apply Ext.drewN | (refine Ext.trans ?_ (by assumption))))); obtain ⟨hz0, hx0, hy0⟩ := (hp.ext (show Ext w w1 by (repeat (first | exact Ext.refl _ | assumption | apply Ext.alloc | apply Ext.drew | apply Ext.drewN | (refine Ext.trans ?_ (by assumption)))))).cell (show 0 < l.length by omega); (simp only [Nat.zero_mul, Nat.add_zero] at hx0 hy0))
    have s14 : w.heap.size + 2 ≤ w1.heap.size := by have := hb1.size; simpa using this
    have xb1 : Ext (w.alloc (.cells #[.slice (some ⟨b, off, none⟩) l.length c] 26)) w1 := by (repeat (first | exact Ext.refl _ | assumption | apply Ext.alloc | apply Ext.drew | apply Ext.drewN | (refine Ext.trans ?_ (by assumption))))
    have ue1 : w1.heap[w.heap.size + 1]? = some (.cells #[] 28 (0, 0)) := by
      have h := heap_alloc_new (w.alloc (.cells #[.slice (some ⟨b, off, none⟩) l.length c] 26)) (.cells #[] 28)
      have e : (w.alloc (.cells #[.slice (some ⟨b, off, none⟩) l.length c] 26)).heap.size = w.heap.size + 1 := by simp
      rw [e] at h
      exact (hb1.below.block _ (by simp)).trans h
    have v1 : Two ((w1.alloc (.cells #[.int .i64 (gx l 0), .int .i64 (gy l 0)] 28)).alloc (.cells #[.int .i64 (gx l 0), .int .i64 (gy l 0)] 28)) w1.heap.size 28 (gx l 0) (gy l 0) := (Two.new w1 _ _ _).ext (by (repeat (first | exact Ext.refl _ | assumption | apply Ext.alloc | apply Ext.drew | apply Ext.drewN | (refine Ext.trans ?_ (by assumption)))))
    have v2 : Two ((w1.alloc (.cells #[.int .i64 (gx l 0), .int .i64 (gy l 0)] 28)).alloc (.cells #[.int .i64 (gx l 0), .int .i64 (gy l 0)] 28)) (w1.heap.size + 1) 28 (gx l 0) (gy l 0) := by
      have h := Two.new (w1.alloc (.cells #[.int .i64 (gx l 0), .int .i64 (gy l 0)] 28)) 28 (gx l 0) (gy l 0)
      have e : (w1.alloc (.cells #[.int .i64 (gx l 0), .int .i64 (gy l 0)] 28)).heap.size = w1.heap.size + 1 := by simp
      rwa [e] at h
    have ue : ((w1.alloc (.cells #[.int .i64 (gx l 0), .int .i64 (gy l 0)] 28)).alloc (.cells #[.int .i64 (gx l 0), .int .i64 (gy l 0)] 28)).heap[w.heap.size + 1]? = some (.cells #[] 28 (0, 0)) := ((show Ext w1 ((w1.alloc (.cells #[.int .i64 (gx l 0), .int .i64 (gy l 0)] 28)).alloc (.cells #[.int .i64 (gx l 0), .int .i64 (gy l 0)] 28)) by (repeat (first | exact Ext.refl _ | assumption | apply Ext.alloc | apply Ext.drew | apply Ext.drewN | (refine Ext.trans ?_ (by assumption))))).below.block _ (by omega)).trans ue1
    have xa : Ext (w.alloc (.cells #[.slice (some ⟨b, off, none⟩) l.length c] 26)) ((w1.alloc (.cells #[.int .i64 (gx l 0), .int .i64 (gy l 0)] 28)).alloc (.cells #[.int .i64 (gx l 0), .int .i64 (gy l 0)] 28)) := by (repeat (first | exact Ext.refl _ | assumption | apply Ext.alloc | apply Ext.drew | apply Ext.drewN | (refine Ext.trans ?_ (by assumption))))
    clear f1 ue1 hx0 hy0 hz0
    generalize ((w1.alloc (.cells #[.int .i64 (gx l 0), .int .i64 (gy l 0)] 28)).alloc (.cells #[.int .i64 (gx l 0), .int .i64 (gy l 0)] 28)) = wa at v1 v2 ue xa ⊢
    clear xb1 hb1
    obtain ⟨g4, hg4⟩ : ∃ g, g = w1.heap.size := ⟨_, rfl⟩
    rw [← hg4] at v1 v2 s14 ⊢
    clear hg4
    go_loopw [6] (fun i wr => ∃ k : Nat, k ≤ l.length ∧ i = .int .i64 k ∧ Ext (w.alloc (.cells #[.slice (some ⟨b, off, none⟩) l.length c] 26)) wr ∧ Two wr g4 28 (loX l k) (loY l k) ∧ Two wr (g4 + 1) 28 (hiX l k) (hiY l k) ∧ wr.heap[w.heap.size + 1]? = some (.cells #[] 28 (0, 0))) (fun i _ => l.length - (intOf i).toNat)
    case atStart => exact ⟨0, Nat.zero_le _, rfl, xa, v1, v2, ue⟩
    case round =>
      obtain ⟨k, hk, rfl, hbl, u1, u2, ue2⟩ := hrel
      obtain ⟨wc, rfl⟩ : ∃ wc : World, wc = wr := ⟨_, rfl⟩
      clear xa v1 v2 ue
      have fb := HC.out wc hbl
      by_cases hlt : k < l.length
      · have q2 : (k : Int) < (l.length : Int) := by omega
        have q1 : (0 : Int) ≤ (k : Int) := by omega
        obtain ⟨a0, ha0⟩ : ∃ a, a = loX l k := ⟨_, rfl⟩
        obtain ⟨b0, hb0⟩ : ∃ a, a = loY l k := ⟨_, rfl⟩
        obtain ⟨a1, ha1⟩ : ∃ a, a = hiX l k := ⟨_, rfl⟩
        obtain ⟨b1, hb1⟩ : ∃ a, a = hiY l k := ⟨_, rfl⟩
        rw [← ha0, ← hb0] at u1
        rw [← ha1, ← hb1] at u2
        have HA0 := hide ha0
        have HB0 := hide hb0
        have HA1 := hide ha1
        have HB1 := hide hb1
        clear ha0 hb0 ha1 hb1
        go_wp2
        have hcc := ((hp.ext (show Ext w wc by (repeat (first | exact Ext.refl _ | assumption | apply Ext.alloc | apply Ext.drew | apply Ext.drewN | (refine Ext.trans ?_ (by assumption)))))).cell hlt).2
        obtain ⟨d1, d2, d3, d4, d5⟩ := u1.cells
        obtain ⟨e1, e2, e3, e4, e5⟩ := u2.cells
        refine wp_flow_tail 9 (by kernel_rfl) (by kernel_rfl) (by kernel_rfl) (by kernel_rfl) (fun u => ⟨#[_, _, _, _, _, _, _, _, _, _, _, _, _, _, _, _, _, _, _, _, _, _, _, _, _, _, _, _, _, _, u 0, u 1, u 2, u 3, u 4, u 5, u 6, u 7, u 8, _, _, _, _, _, _, _, _, _, _, _, _, _, _, _, _, _, _, _, _, _, _, _, _, _, _, _, _, _, _, _, _, _, _, _, _, _, _, _, _, _, _, _, _, _, _, _, _, _, _, _, _, _, _, _, _, _, _, _, _], _⟩) (fun i => List.getD [_, _, _, _, _, _, _, _, _] i undef) [is ?v1_0, is ?v1_1, is ?v1_2, is ?v1_3, is ?v1_4, is ?v1_5, is ?v1_6, is ?v1_7, is ?v1_8] (fun w' => w'.cell? ⟨w.heap.size, 0, none⟩ = some (.slice (some ⟨b, off, none⟩) l.length c) ∧ w.heap.size < w'.heap.size ∧ (w'.cell? ⟨b, off + k * 2, none⟩ = some (.int .i64 (gx l (k))) ∧ w'.cell? ⟨b, off + k * 2 + 1, none⟩ = some (.int .i64 (gy l (k)))) ∧ w'.cell? ⟨g4, 0, none⟩ = some (.int .i64 a0) ∧ w'.cell? ⟨g4, 1, none⟩ = some (.int .i64 b0) ∧ w'.cell? ⟨g4 + 1, 0, none⟩ = some (.int .i64 a1) ∧ w'.cell? ⟨g4 + 1, 1, none⟩ = some (.int .i64 b1)) _ rfl ?hC1 ?hs1 ?hV1 ?fin1
        case hC1 => exact fun w' hq => by have h := HC.out w' (by (repeat (first | exact Ext.refl _ | assumption | apply Ext.alloc | apply Ext.drew | apply Ext.drewN | (refine Ext.trans ?_ (by assumption))))); have h2 := ((hp.ext (show Ext w w' by (repeat (first | exact Ext.refl _ | assumption | apply Ext.alloc | apply Ext.drew | apply Ext.drewN | (refine Ext.trans ?_ (by assumption)))))).cell hlt).2; have h3 := (u1.ext hq).cells; have h4 := (u2.ext hq).cells; simp only [h, h2, h3, h4, and_self]
        case hs1 =>
          repeat' (first
            | exact FSteps.nil
            | refine FSteps.cons ?_ ?_
            | (refine FStep.off_ _ _ _ rfl rfl ?_ (fun _ => rfl) ?_; (focus (intro u w hd; simp [vOf, is, Region.binds] at hd; simp [hd])); (intro w'; exact rfl); done)
            | ((first
                | refine FStep.plain rfl ?_
                | (refine FStep.on_ _ _ _ rfl rfl ?_ ?_; (focus (intro u w hd; simp [vOf, is, Region.binds] at hd; simp [hd]))))
               intro u w hW hC hd K hK
               (try simp [vOf, is, Region.binds] at hd)
               simp only [upd, Nat.reduceEqDiff, if_true, if_false] at hK
               (try simp only [hd] at hK)
               go_simp
               (first
                 | (refine hK _ _ ?_ ?_; (first | exact rfl); (repeat (first | exact Ext.refl _ | assumption | apply Ext.alloc | apply Ext.drew | apply Ext.drewN | (refine Ext.trans ?_ (by assumption))))))))
        case hV1 => (simp only [List.forall_mem_cons]; simp [stable_is])
        case fin1 =>
          intro u w2 hW2 hC2 hd
          simp only [AllV, is] at hd
          simp only [List.drop_succ_cons, List.drop_zero]
          simp only [hd]
          clear hd
          obtain ⟨x0, hm0⟩ : ∃ m : Int, m = (if gx l k < a0 then gx l k else a0) := ⟨_, rfl⟩
          rw [← hm0]
          have HM9 := hide hm0
          clear hm0
          have u1' := u1.ext hW2
          have u2' := u2.ext hW2
          have ue' : w2.heap[w.heap.size + 1]? = some (.cells #[] 28 (0, 0)) := (hW2.below.block _ (heap_lt ue2)).trans ue2
          have hbl2 : Ext (w.alloc (.cells #[.slice (some ⟨b, off, none⟩) l.length c] 26)) w2 := hbl.trans hW2
          clear hcc d1 d2 d3 d4 d5 e1 e2 e3 e4 e5 hC2 u1 u2 ue2 hbl hW2
          obtain ⟨d1, d2, d3, d4, d5⟩ := u1'.cells
          obtain ⟨e1, e2, e3, e4, e5⟩ := u2'.cells
          go_wp2
          have u1 : Two (w2.setCell ⟨g4, 0, none⟩ (.int .i64 x0)) g4 28 x0 b0 := u1'.set0 _
          have u2 : Two (w2.setCell ⟨g4, 0, none⟩ (.int .i64 x0)) (g4 + 1) 28 a1 b1 := u2'.other (by omega)
          have ue2 : (w2.setCell ⟨g4, 0, none⟩ (.int .i64 x0)).heap[w.heap.size + 1]? = some (.cells #[] 28 (0, 0)) := (Below.heap_setCell _ _ _ _ (by simp; omega)).trans ue'
          have hbl : Ext (w.alloc (.cells #[.slice (some ⟨b, off, none⟩) l.length c] 26)) (w2.setCell ⟨g4, 0, none⟩ (.int .i64 x0)) := hbl2.setCell (by simp; omega) _
          clear d1 d2 d3 d4 d5 e1 e2 e3 e4 e5 u1' u2' ue' hbl2
          generalize w2.setCell ⟨g4, 0, none⟩ (.int .i64 x0) = wc at u1 u2 ue2 hbl ⊢
          have hcc := ((hp.ext (show Ext w wc by (repeat (first | exact Ext.refl _ | assumption | apply Ext.alloc | apply Ext.drew | apply Ext.drewN | (refine Ext.trans ?_ (by assumption)))))).cell hlt).2
          obtain ⟨d1, d2, d3, d4, d5⟩ := u1.cells
          obtain ⟨e1, e2, e3, e4, e5⟩ := u2.cells
          refine wp_flow_tail 9 (by kernel_rfl) (by kernel_rfl) (by kernel_rfl) (by kernel_rfl) (fun u => ⟨#[_, _, _, _, _, _, _, _, _, _, _, _, _, _, _, _, _, _, _, _, _, _, _, _, _, _, _, _, _, _, _, _, _, _, _, _, _, _, _, _, u 0, u 1, u 2, u 3, u 4, u 5, u 6, u 7, u 8, _, _, _, _, _, _, _, _, _, _, _, _, _, _, _, _, _, _, _, _, _, _, _, _, _, _, _, _, _, _, _, _, _, _, _, _, _, _, _, _, _, _, _, _, _, _, _, _, _, _], _⟩) (fun i => List.getD [_, _, _, _, _, _, _, _, _] i undef) [is ?v2_0, is ?v2_1, is ?v2_2, is ?v2_3, is ?v2_4, is ?v2_5, is ?v2_6, is ?v2_7, is ?v2_8] (fun w' => w'.cell? ⟨w.heap.size, 0, none⟩ = some (.slice (some ⟨b, off, none⟩) l.length c) ∧ w.heap.size < w'.heap.size ∧ (w'.cell? ⟨b, off + k * 2, none⟩ = some (.int .i64 (gx l (k))) ∧ w'.cell? ⟨b, off + k * 2 + 1, none⟩ = some (.int .i64 (gy l (k)))) ∧ w'.cell? ⟨g4, 0, none⟩ = some (.int .i64 x0) ∧ w'.cell? ⟨g4, 1, none⟩ = some (.int .i64 b0) ∧ w'.cell? ⟨g4 + 1, 0, none⟩ = some (.int .i64 a1) ∧ w'.cell? ⟨g4 + 1, 1, none⟩ = some (.int .i64 b1)) _ rfl ?hC2 ?hs2 ?hV2 ?fin2
          case hC2 => exact fun w' hq => by have h := HC.out w' (by (repeat (first | exact Ext.refl _ | assumption | apply Ext.alloc | apply Ext.drew | apply Ext.drewN | (refine Ext.trans ?_ (by assumption))))); have h2 := ((hp.ext (show Ext w w' by (repeat (first | exact Ext.refl _ | assumption | apply Ext.alloc | apply Ext.drew | apply Ext.drewN | (refine Ext.trans ?_ (by assumption)))))).cell hlt).2; have h3 := (u1.ext hq).cells; have h4 := (u2.ext hq).cells; simp only [h, h2, h3, h4, and_self]
          case hs2 =>
            repeat' (first
              | exact FSteps.nil
              | refine FSteps.cons ?_ ?_
              | (refine FStep.off_ _ _ _ rfl rfl ?_ (fun _ => rfl) ?_; (focus (intro u w hd; simp [vOf, is, Region.binds] at hd; simp [hd])); (intro w'; exact rfl); done)
              | ((first
                  | refine FStep.plain rfl ?_
                  | (refine FStep.on_ _ _ _ rfl rfl ?_ ?_; (focus (intro u w hd; simp [vOf, is, Region.binds] at hd; simp [hd]))))
                 intro u w hW hC hd K hK
                 (try simp [vOf, is, Region.binds] at hd)
                 simp only [upd, Nat.reduceEqDiff, if_true, if_false] at hK
                 (try simp only [hd] at hK)
                 go_simp
                 (first
                   | (refine hK _ _ ?_ ?_; (first | exact rfl); (repeat (first | exact Ext.refl _ | assumption | apply Ext.alloc | apply Ext.drew | apply Ext.drewN | (refine Ext.trans ?_ (by assumption))))))))
          case hV2 => (simp only [List.forall_mem_cons]; simp [stable_is])
          case fin2 =>
            intro u w2 hW2 hC2 hd
            simp only [AllV, is] at hd
            simp only [List.drop_succ_cons, List.drop_zero]
            simp only [hd]
            clear hd
            obtain ⟨y0, hm0⟩ : ∃ m : Int, m = (if gy l k < b0 then gy l k else b0) := ⟨_, rfl⟩
            rw [← hm0]
            have HM10 := hide hm0
            clear hm0
            have u1' := u1.ext hW2
            have u2' := u2.ext hW2
            have ue' : w2.heap[w.heap.size + 1]? = some (.cells #[] 28 (0, 0)) := (hW2.below.block _ (heap_lt ue2)).trans ue2
            have hbl2 : Ext (w.alloc (.cells #[.slice (some ⟨b, off, none⟩) l.length c] 26)) w2 := hbl.trans hW2
            clear hcc d1 d2 d3 d4 d5 e1 e2 e3 e4 e5 hC2 u1 u2 ue2 hbl hW2
            obtain ⟨d1, d2, d3, d4, d5⟩ := u1'.cells
            obtain ⟨e1, e2, e3, e4, e5⟩ := u2'.cells
            go_wp2
            have u1 : Two (w2.setCell ⟨g4, 1, none⟩ (.int .i64 y0)) g4 28 x0 y0 := u1'.set1 _
            have u2 : Two (w2.setCell ⟨g4, 1, none⟩ (.int .i64 y0)) (g4 + 1) 28 a1 b1 := u2'.other (by omega)
            have ue2 : (w2.setCell ⟨g4, 1, none⟩ (.int .i64 y0)).heap[w.heap.size + 1]? = some (.cells #[] 28 (0, 0)) := (Below.heap_setCell _ _ _ _ (by simp; omega)).trans ue'
            have hbl : Ext (w.alloc (.cells #[.slice (some ⟨b, off, none⟩) l.length c] 26)) (w2.setCell ⟨g4, 1, none⟩ (.int .i64 y0)) := hbl2.setCell (by simp; omega) _
            clear d1 d2 d3 d4 d5 e1 e2 e3 e4 e5 u1' u2' ue' hbl2
            generalize w2.setCell ⟨g4, 1, none⟩ (.int .i64 y0) = wc at u1 u2 ue2 hbl ⊢
            have hcc := ((hp.ext (show Ext w wc by (repeat (first | exact Ext.refl _ | assumption | apply Ext.alloc | apply Ext.drew | apply Ext.drewN | (refine Ext.trans ?_ (by assumption)))))).cell hlt).2
            obtain ⟨d1, d2, d3, d4, d5⟩ := u1.cells
            obtain ⟨e1, e2, e3, e4, e5⟩ := u2.cells
            refine wp_flow_tail 9 (by kernel_rfl) (by kernel_rfl) (by kernel_rfl) (by kernel_rfl) (fun u => ⟨#[_, _, _, _, _, _, _, _, _, _, _, _, _, _, _, _, _, _, _, _, _, _, _, _, _, _, _, _, _, _, _, _, _, _, _, _, _, _, _, _, _, _, _, _, _, _, _, _, _, _, u 0, u 1, u 2, u 3, u 4, u 5, u 6, u 7, u 8, _, _, _, _, _, _, _, _, _, _, _, _, _, _, _, _, _, _, _, _, _, _, _, _, _, _, _, _, _, _, _, _, _, _, _, _, _, _, _, _], _⟩) (fun i => List.getD [_, _, _, _, _, _, _, _, _] i undef) [is ?v3_0, is ?v3_1, is ?v3_2, is ?v3_3, is ?v3_4, is ?v3_5, is ?v3_6, is ?v3_7, is ?v3_8] (fun w' => w'.cell? ⟨w.heap.size, 0, none⟩ = some (.slice (some ⟨b, off, none⟩) l.length c) ∧ w.heap.size < w'.heap.size ∧ (w'.cell? ⟨b, off + k * 2, none⟩ = some (.int .i64 (gx l (k))) ∧ w'.cell? ⟨b, off + k * 2 + 1, none⟩ = some (.int .i64 (gy l (k)))) ∧ w'.cell? ⟨g4, 0, none⟩ = some (.int .i64 x0) ∧ w'.cell? ⟨g4, 1, none⟩ = some (.int .i64 y0) ∧ w'.cell? ⟨g4 + 1, 0, none⟩ = some (.int .i64 a1) ∧ w'.cell? ⟨g4 + 1, 1, none⟩ = some (.int .i64 b1)) _ rfl ?hC3 ?hs3 ?hV3 ?fin3
            case hC3 => exact fun w' hq => by have h := HC.out w' (by (repeat (first | exact Ext.refl _ | assumption | apply Ext.alloc | apply Ext.drew | apply Ext.drewN | (refine Ext.trans ?_ (by assumption))))); have h2 := ((hp.ext (show Ext w w' by (repeat (first | exact Ext.refl _ | assumption | apply Ext.alloc | apply Ext.drew | apply Ext.drewN | (refine Ext.trans ?_ (by assumption)))))).cell hlt).2; have h3 := (u1.ext hq).cells; have h4 := (u2.ext hq).cells; simp only [h, h2, h3, h4, and_self]
            case hs3 =>
              repeat' (first
                | exact FSteps.nil
                | refine FSteps.cons ?_ ?_
                | (refine FStep.off_ _ _ _ rfl rfl ?_ (fun _ => rfl) ?_; (focus (intro u w hd; simp [vOf, is, Region.binds] at hd; simp [hd])); (intro w'; exact rfl); done)
                | ((first
                    | refine FStep.plain rfl ?_
                    | (refine FStep.on_ _ _ _ rfl rfl ?_ ?_; (focus (intro u w hd; simp [vOf, is, Region.binds] at hd; simp [hd]))))
                   intro u w hW hC hd K hK
                   (try simp [vOf, is, Region.binds] at hd)
                   simp only [upd, Nat.reduceEqDiff, if_true, if_false] at hK
                   (try simp only [hd] at hK)
                   go_simp
                   (first
                     | (refine hK _ _ ?_ ?_; (first | exact rfl); (repeat (first | exact Ext.refl _ | assumption | apply Ext.alloc | apply Ext.drew | apply Ext.drewN | (refine Ext.trans ?_ (by assumption))))))))
            case hV3 => (simp only [List.forall_mem_cons]; simp [stable_is])
            case fin3 =>
              intro u w2 hW2 hC2 hd
              simp only [AllV, is] at hd
              simp only [List.drop_succ_cons, List.drop_zero]
              simp only [hd]
              clear hd
              obtain ⟨x1, hm0⟩ : ∃ m : Int, m = (if a1 < gx l k then gx l k else a1) := ⟨_, rfl⟩
              rw [← hm0]
              have HM11 := hide hm0
              clear hm0
              have u1' := u1.ext hW2
              have u2' := u2.ext hW2
              have ue' : w2.heap[w.heap.size + 1]? = some (.cells #[] 28 (0, 0)) := (hW2.below.block _ (heap_lt ue2)).trans ue2
              have hbl2 : Ext (w.alloc (.cells #[.slice (some ⟨b, off, none⟩) l.length c] 26)) w2 := hbl.trans hW2
              clear hcc d1 d2 d3 d4 d5 e1 e2 e3 e4 e5 hC2 u1 u2 ue2 hbl hW2
              obtain ⟨d1, d2, d3, d4, d5⟩ := u1'.cells
              obtain ⟨e1, e2, e3, e4, e5⟩ := u2'.cells
              go_wp2
              have u1 : Two (w2.setCell ⟨g4 + 1, 0, none⟩ (.int .i64 x1)) g4 28 x0 y0 := u1'.other (by omega)
              have u2 : Two (w2.setCell ⟨g4 + 1, 0, none⟩ (.int .i64 x1)) (g4 + 1) 28 x1 b1 := u2'.set0 _
              have ue2 : (w2.setCell ⟨g4 + 1, 0, none⟩ (.int .i64 x1)).heap[w.heap.size + 1]? = some (.cells #[] 28 (0, 0)) := (Below.heap_setCell _ _ _ _ (by simp; omega)).trans ue'
              have hbl : Ext (w.alloc (.cells #[.slice (some ⟨b, off, none⟩) l.length c] 26)) (w2.setCell ⟨g4 + 1, 0, none⟩ (.int .i64 x1)) := hbl2.setCell (by simp; omega) _
              clear d1 d2 d3 d4 d5 e1 e2 e3 e4 e5 u1' u2' ue' hbl2
              generalize w2.setCell ⟨g4 + 1, 0, none⟩ (.int .i64 x1) = wc at u1 u2 ue2 hbl ⊢
              have hcc := ((hp.ext (show Ext w wc by (repeat (first | exact Ext.refl _ | assumption | apply Ext.alloc | apply Ext.drew | apply Ext.drewN | (refine Ext.trans ?_ (by assumption)))))).cell hlt).2
              obtain ⟨d1, d2, d3, d4, d5⟩ := u1.cells
              obtain ⟨e1, e2, e3, e4, e5⟩ := u2.cells
              refine wp_flow_tail 9 (by kernel_rfl) (by kernel_rfl) (by kernel_rfl) (by kernel_rfl) (fun u => ⟨#[_, _, _, _, _, _, _, _, _, _, _, _, _, _, _, _, _, _, _, _, _, _, _, _, _, _, _, _, _, _, _, _, _, _, _, _, _, _, _, _, _, _, _, _, _, _, _, _, _, _, _, _, _, _, _, _, _, _, _, _, u 0, u 1, u 2, u 3, u 4, u 5, u 6, u 7, u 8, _, _, _, _, _, _, _, _, _, _, _, _, _, _, _, _, _, _, _, _, _, _, _, _, _, _, _, _, _, _], _⟩) (fun i => List.getD [_, _, _, _, _, _, _, _, _] i undef) [is ?v4_0, is ?v4_1, is ?v4_2, is ?v4_3, is ?v4_4, is ?v4_5, is ?v4_6, is ?v4_7, is ?v4_8] (fun w' => w'.cell? ⟨w.heap.size, 0, none⟩ = some (.slice (some ⟨b, off, none⟩) l.length c) ∧ w.heap.size < w'.heap.size ∧ (w'.cell? ⟨b, off + k * 2, none⟩ = some (.int .i64 (gx l (k))) ∧ w'.cell? ⟨b, off + k * 2 + 1, none⟩ = some (.int .i64 (gy l (k)))) ∧ w'.cell? ⟨g4, 0, none⟩ = some (.int .i64 x0) ∧ w'.cell? ⟨g4, 1, none⟩ = some (.int .i64 y0) ∧ w'.cell? ⟨g4 + 1, 0, none⟩ = some (.int .i64 x1) ∧ w'.cell? ⟨g4 + 1, 1, none⟩ = some (.int .i64 b1)) _ rfl ?hC4 ?hs4 ?hV4 ?fin4
              case hC4 => exact fun w' hq => by have h := HC.out w' (by (repeat (first | exact Ext.refl _ | assumption | apply Ext.alloc | apply Ext.drew | apply Ext.drewN | (refine Ext.trans ?_ (by assumption))))); have h2 := ((hp.ext (show Ext w w' by (repeat (first | exact Ext.refl _ | assumption | apply Ext.alloc | apply Ext.drew | apply Ext.drewN | (refine Ext.trans ?_ (by assumption)))))).cell hlt).2; have h3 := (u1.ext hq).cells; have h4 := (u2.ext hq).cells; simp only [h, h2, h3, h4, and_self]
              case hs4 =>
                repeat' (first
                  | exact FSteps.nil
                  | refine FSteps.cons ?_ ?_
                  | (refine FStep.off_ _ _ _ rfl rfl ?_ (fun _ => rfl) ?_; (focus (intro u w hd; simp [vOf, is, Region.binds] at hd; simp [hd])); (intro w'; exact rfl); done)
                  | ((first
                      | refine FStep.plain rfl ?_
                      | (refine FStep.on_ _ _ _ rfl rfl ?_ ?_; (focus (intro u w hd; simp [vOf, is, Region.binds] at hd; simp [hd]))))
                     intro u w hW hC hd K hK
                     (try simp [vOf, is, Region.binds] at hd)
                     simp only [upd, Nat.reduceEqDiff, if_true, if_false] at hK
                     (try simp only [hd] at hK)
                     go_simp
                     (first
                       | (refine hK _ _ ?_ ?_; (first | exact rfl); (repeat (first | exact Ext.refl _ | assumption | apply Ext.alloc | apply Ext.drew | apply Ext.drewN | (refine Ext.trans ?_ (by assumption))))))))
              case hV4 => (simp only [List.forall_mem_cons]; simp [stable_is])
              case fin4 =>
                intro u w2 hW2 hC2 hd
                simp only [AllV, is] at hd
                simp only [List.drop_succ_cons, List.drop_zero]
                simp only [hd]
                clear hd
                obtain ⟨y1, hm0⟩ : ∃ m : Int, m = (if b1 < gy l k then gy l k else b1) := ⟨_, rfl⟩
                rw [← hm0]
                have HM12 := hide hm0
                clear hm0
                have u1' := u1.ext hW2
                have u2' := u2.ext hW2
                have ue' : w2.heap[w.heap.size + 1]? = some (.cells #[] 28 (0, 0)) := (hW2.below.block _ (heap_lt ue2)).trans ue2
                have hbl2 : Ext (w.alloc (.cells #[.slice (some ⟨b, off, none⟩) l.length c] 26)) w2 := hbl.trans hW2
                clear hcc d1 d2 d3 d4 d5 e1 e2 e3 e4 e5 hC2 u1 u2 ue2 hbl hW2
                obtain ⟨d1, d2, d3, d4, d5⟩ := u1'.cells
                obtain ⟨e1, e2, e3, e4, e5⟩ := u2'.cells
                go_wp2
                have u1 : Two (w2.setCell ⟨g4 + 1, 1, none⟩ (.int .i64 y1)) g4 28 x0 y0 := u1'.other (by omega)
                have u2 : Two (w2.setCell ⟨g4 + 1, 1, none⟩ (.int .i64 y1)) (g4 + 1) 28 x1 y1 := u2'.set1 _
                have ue2 : (w2.setCell ⟨g4 + 1, 1, none⟩ (.int .i64 y1)).heap[w.heap.size + 1]? = some (.cells #[] 28 (0, 0)) := (Below.heap_setCell _ _ _ _ (by simp; omega)).trans ue'
                have hbl : Ext (w.alloc (.cells #[.slice (some ⟨b, off, none⟩) l.length c] 26)) (w2.setCell ⟨g4 + 1, 1, none⟩ (.int .i64 y1)) := hbl2.setCell (by simp; omega) _
                clear d1 d2 d3 d4 d5 e1 e2 e3 e4 e5 u1' u2' ue' hbl2
                generalize w2.setCell ⟨g4 + 1, 1, none⟩ (.int .i64 y1) = wc at u1 u2 ue2 hbl ⊢
                go_roundw
                case rel => exact ⟨k + 1, by omega, by go_num, hbl, by rw [loX_succ, loY_succ, ← HA0.out, ← HB0.out, ← HM9.out, ← HM10.out]; exact u1, by rw [hiX_succ, hiY_succ, ← HA1.out, ← HB1.out, ← HM11.out, ← HM12.out]; exact u2, ue2⟩
                case measure => simp [intOf]; omega
      · have e : k = l.length := by omega
        subst e
        obtain ⟨⟨r1, r2⟩, ⟨r3, r4⟩, ⟨r5, r6⟩, ⟨r7, r8⟩, r9, r10⟩ := HBD.out l.length (Nat.le_refl _)
        obtain ⟨nx, hnx⟩ : ∃ nx : Nat, nx = (hiX l l.length - loX l l.length + 1).toNat := ⟨_, rfl⟩
        obtain ⟨ny, hny⟩ : ∃ ny : Nat, ny = (hiY l l.length - loY l l.length + 1).toNat := ⟨_, rfl⟩
        have HF := hide (show floorL l = rowsL l (loY l l.length) (loX l l.length) nx ny by rw [hnx, hny]; rfl)
        have nx1 : (nx : Int) = hiX l l.length - loX l l.length + 1 := by omega
        have ny1 : (ny : Int) = hiY l l.length - loY l l.length + 1 := by omega
        have NX := hide nx1
        have NY := hide ny1
        have nx2 : nx ≤ 81 := by omega
        have ny2 : ny ≤ 81 := by omega
        clear hnx hny nx1 ny1 hk hlt
        generalize loX l l.length = x0 at *
        generalize loY l l.length = y0 at *
        generalize hiX l l.length = x1 at *
        generalize hiY l l.length = y1 at *
        have hown0 : wc.ownsRow (w.heap.size + 1) 28 2 (.slice (some ⟨w.heap.size + 1, 0, none⟩) 0 0) 0 [] := ⟨rfl, .inr ⟨w.heap.size + 1, 0, #[], rfl, Nat.le_refl _, ue2, Nat.le_refl _, by unfold maxLen; omega, rfl, rfl⟩⟩
        obtain ⟨a1, a2, a3, a4, a5⟩ := u1.cells
        obtain ⟨c1, c2, c3, c4, c5⟩ := u2.cells
        go_wp2
        clear a1 a2 a3 a4 a5 c1 c2 c3 c4 c5 fb
        go_loopw [3, 7] (fun out y wr => ∃ (j : Nat) (o : Value), j ≤ ny ∧ y = .int .i64 (y0 + j) ∧ o = out ∧ Ext (w.alloc (.cells #[.slice (some ⟨b, off, none⟩) l.length c] 26)) wr ∧ Two wr g4 28 x0 y0 ∧ Two wr (g4 + 1) 28 x1 y1 ∧ Hid (∀ q, o.ownBlock = some q → q ≠ g4 ∧ q ≠ g4 + 1) ∧ wr.ownsRow (w.heap.size + 1) 28 2 o (rowsL l y0 x0 nx j).length (flat (rowsL l y0 x0 nx j))) (fun _ y _ => (y1 - intOf y + 1).toNat)
        case atStart => exact ⟨0, _, Nat.zero_le _, by simp, rfl, hbl, u1, u2, hide (fun q hq => by simp [Value.ownBlock] at hq; omega), hown0⟩
        case round =>
          clear hbl u1 u2 ue2 hown0
          obtain ⟨j, o, hj, rfl, ho, hbj, u1, u2, HNB, hown⟩ := hrel
          subst ho
          obtain ⟨wj, rfl⟩ : ∃ wj : World, wj = wr := ⟨_, rfl⟩
          obtain ⟨a1, a2, a3, a4, a5⟩ := u1.cells
          obtain ⟨c1, c2, c3, c4, c5⟩ := u2.cells
          have hle1 := rowsL_le l y0 x0 nx j
          have hle2 : j * nx ≤ 81 * 81 := Nat.mul_le_mul (by omega) nx2
          by_cases hjl : j < ny
          · have hyj : y0 + (j : Int) ≤ y1 := by have := NY.out; omega
            go_wp2
            clear a1 a2 a3 a4 a5 c1 c2 c3 c4 c5
            go_loopw [3, 8] (fun out x wr => ∃ (i : Nat) (o : Value), i ≤ nx ∧ x = .int .i64 (x0 + i) ∧ o = out ∧ Ext (w.alloc (.cells #[.slice (some ⟨b, off, none⟩) l.length c] 26)) wr ∧ Two wr g4 28 x0 y0 ∧ Two wr (g4 + 1) 28 x1 y1 ∧ Hid (∀ q, o.ownBlock = some q → q ≠ g4 ∧ q ≠ g4 + 1) ∧ wr.ownsRow (w.heap.size + 1) 28 2 o (rowsL l y0 x0 nx j ++ rowL l (y0 + j) x0 i).length (flat (rowsL l y0 x0 nx j ++ rowL l (y0 + j) x0 i))) (fun _ x _ => (x1 - intOf x + 1).toNat)
            case atStart => exact ⟨0, _, Nat.zero_le _, by simp, rfl, hbj, u1, u2, HNB, by simpa [rowL] using hown⟩
            case round =>
              clear hbj u1 u2 hown HNB
              obtain ⟨i, o, hi, rfl, ho, hbi, u1, u2, HNB, hown2⟩ := hrel
              subst ho
              obtain ⟨wi, rfl⟩ : ∃ wi : World, wi = wr := ⟨_, rfl⟩
              obtain ⟨a1, a2, a3, a4, a5⟩ := u1.cells
              obtain ⟨c1, c2, c3, c4, c5⟩ := u2.cells
              have fbi := HC.out wi hbi
              have hle3 := rowL_le l (y0 + j) x0 i
              by_cases hil : i < nx
              · have hxi : x0 + (i : Int) ≤ x1 := by have := NX.out; omega
                have HQ : Hid (∀ w', Ext (wi.alloc (.cells #[.int .i64 (x0 + i), .int .i64 (y0 + j)] 28)) w' → w'.cell? ⟨wi.heap.size, 0, none⟩ = some (.int .i64 (x0 + i)) ∧ w'.cell? ⟨wi.heap.size, 1, none⟩ = some (.int .i64 (y0 + j)) ∧ wi.heap.size < w'.heap.size) := fun w' hx => by
                  and_intros <;> (first | (have hz := hx.size; simp at hz; omega) | ((first | rw [hx.cells _ _ (by first | (simp; done) | (simp; omega))] | rw [hx.frozens _ _ (by first | (simp; done) | (simp; omega))]); (first | (simp [go_sem]; done) | (simp [go_sem, World.cell?_alloc_past]; done) | (simp [go_sem, World.frozen?]; done))))
                have hpk : pok (x0 + i) (y0 + j) = true := by simp [pok, inB]; omega
                have HPL := hide (place_fine hr hpk)
                have h3v := holdsV_bd l (x0 + i) (y0 + j)
                obtain ⟨hv0, hhv⟩ : ∃ h, h = holdsV l (x0 + i) (y0 + j) := ⟨_, rfl⟩
                rw [← hhv] at h3v HPL
                have HHV := hide hhv
                clear hhv hpk
                cases hv : (placeV l (x0 + i) (y0 + j) != 0)
                · have HS := hide (show rowL l (y0 + j) x0 (i + 1) = rowL l (y0 + j) x0 i by rw [rowL_succ, hv]; rfl)
                  have h1 : hv0 = -1 := by have := HPL.out; rw [this] at hv; simp at hv; omega
                  subst h1
                  clear hv h3v
                  go_wp2_with (go_at_call 57; refine (sHolds_any _ _ _ _ _ _ (hp.ext (by (repeat (first | exact Ext.refl _ | assumption | apply Ext.alloc | apply Ext.drew | apply Ext.drewN | (refine Ext.trans ?_ (by assumption)))))) hn).mono ?_; rw [← HHV.out]; rintro e w1 ⟨rfl, hb1⟩)
                  go_roundw
                  case rel => exact ⟨i + 1, _, by omega, by go_num, rfl, by (repeat (first | exact Ext.refl _ | assumption | apply Ext.alloc | apply Ext.drew | apply Ext.drewN | (refine Ext.trans ?_ (by assumption)))), u1.ext (show Ext wi w1 by (repeat (first | exact Ext.refl _ | assumption | apply Ext.alloc | apply Ext.drew | apply Ext.drewN | (refine Ext.trans ?_ (by assumption))))), u2.ext (show Ext wi w1 by (repeat (first | exact Ext.refl _ | assumption | apply Ext.alloc | apply Ext.drew | apply Ext.drewN | (refine Ext.trans ?_ (by assumption))))), HNB, by rw [HS.out]; exact ownsRow_ext hown2 (show Ext wi w1 by (repeat (first | exact Ext.refl _ | assumption | apply Ext.alloc | apply Ext.drew | apply Ext.drewN | (refine Ext.trans ?_ (by assumption)))))⟩
                  case measure => simp [intOf]; omega
                · have HS := hide (show rowL l (y0 + j) x0 (i + 1) = rowL l (y0 + j) x0 i ++ [(x0 + i, y0 + j)] by rw [rowL_succ, hv]; rfl)
                  have h1 : 0 ≤ hv0 := by have := HPL.out; rw [this] at hv; simp at hv; omega
                  clear hv h3v
                  go_wp2_with (first | (go_at_call 57; refine (sHolds_any _ _ _ _ _ _ (hp.ext (by (repeat (first | exact Ext.refl _ | assumption | apply Ext.alloc | apply Ext.drew | apply Ext.drewN | (refine Ext.trans ?_ (by assumption)))))) hn).mono ?_; rw [← HHV.out]; rintro e w1 ⟨rfl, hb1⟩; have fq := HQ.out w1 (by (repeat (first | exact Ext.refl _ | assumption | apply Ext.alloc | apply Ext.drew | apply Ext.drewN | (refine Ext.trans ?_ (by assumption))))); have hsz1 := (show Ext wi w1 by (repeat (first | exact Ext.refl _ | assumption | apply Ext.alloc | apply Ext.drew | apply Ext.drewN | (refine Ext.trans ?_ (by assumption))))).size) | (at_builtin; refine wpList_app _ rfl (.tmp 94) (.tmp 96) _ rfl (w.heap.size + 1) 28 i0 _ 2 16 Try.underlying24 hI hZ hS hY rfl (by omega) _ _ (flat (rowsL l y0 x0 nx j ++ rowL l (y0 + j) x0 i)) (by rfl) (ownsRow_ext hown2 (show Ext wi (w1.alloc (.cells #[.int .i64 (x0 + i), .int .i64 (y0 + j)] 28)) by (repeat (first | exact Ext.refl _ | assumption | apply Ext.alloc | apply Ext.drew | apply Ext.drewN | (refine Ext.trans ?_ (by assumption)))))) ⟨w1.heap.size, 0, none⟩ 1 1 [.int .i64 (x0 + i), .int .i64 (y0 + j)] (by rfl) rfl (news_alloc w1 [.int .i64 (x0 + i), .int .i64 (y0 + j)] 28) (by simp [Value.oneCell']) (by unfold maxLen; rw [List.length_append]; omega) (by rw [List.length_append]; omega) (by simp; omega) ?_; intro v' w3 hown3 hg3 hob))
                  have ra := ownsRow_ext hown2 (show Ext wi (w1.alloc (.cells #[.int .i64 (x0 + i), .int .i64 (y0 + j)] 28)) by (repeat (first | exact Ext.refl _ | assumption | apply Ext.alloc | apply Ext.drew | apply Ext.drewN | (refine Ext.trans ?_ (by assumption)))))
                  have hx3 : Ext (w.alloc (.cells #[.slice (some ⟨b, off, none⟩) l.length c] 26)) w3 := ext_grown (show Ext (w.alloc (.cells #[.slice (some ⟨b, off, none⟩) l.length c] 26)) (w1.alloc (.cells #[.int .i64 (x0 + i), .int .i64 (y0 + j)] 28)) by (repeat (first | exact Ext.refl _ | assumption | apply Ext.alloc | apply Ext.drew | apply Ext.drewN | (refine Ext.trans ?_ (by assumption))))) hg3 (fun q hq => by have := (ra.lt q hq).1; simpa using this)
                  have t1 := (u1.ext (show Ext wi (w1.alloc (.cells #[.int .i64 (x0 + i), .int .i64 (y0 + j)] 28)) by (repeat (first | exact Ext.refl _ | assumption | apply Ext.alloc | apply Ext.drew | apply Ext.drewN | (refine Ext.trans ?_ (by assumption)))))).grown hg3 (fun e => (HNB.out _ e).1 rfl)
                  have t2 := (u2.ext (show Ext wi (w1.alloc (.cells #[.int .i64 (x0 + i), .int .i64 (y0 + j)] 28)) by (repeat (first | exact Ext.refl _ | assumption | apply Ext.alloc | apply Ext.drew | apply Ext.drewN | (refine Ext.trans ?_ (by assumption)))))).grown hg3 (fun e => (HNB.out _ e).2 rfl)
                  have HNB2 := hide (show ∀ q, v'.ownBlock = some q → q ≠ g4 ∧ q ≠ g4 + 1 from fun q hq => by
                    rcases hob with h | h
                    · exact HNB.out q (by rw [← h]; exact hq)
                    · rw [h] at hq; simp at hq; have := u2.cells.1; omega)
                  clear hown2 hg3 hob ra u1 u2 HNB a1 a2 a3 a4 a5 c1 c2 c3 c4 c5
                  go_wp2
                  go_roundw
                  case rel => exact ⟨i + 1, _, by omega, by go_num, rfl, hx3, t1, t2, HNB2, by rw [HS.out, ← List.append_assoc, flat_append, List.length_append]; exact hown3⟩
                  case measure => simp [intOf]; omega
              · have e : i = nx := by omega
                have E := hide e
                have hxi : ¬ x0 + (i : Int) ≤ x1 := by have := NX.out; omega
                clear e
                go_wp2
                go_roundw
                case rel => exact ⟨j + 1, _, by omega, by go_num, rfl, hbi, u1, u2, HNB, by rw [rowsL_succ]; have h := hown2; rw [E.out] at h; exact h⟩
                case measure => simp [intOf]; omega
          · have e : j = ny := by omega
            have E := hide e
            have hyj : ¬ y0 + (j : Int) ≤ y1 := by have := NY.out; omega
            clear e
            obtain ⟨A', c', rfl⟩ := ownsRow_slice hown
            go_wp2
            go_ret
            rw [E.out] at hown
            exact ⟨A', c', by rw [HV.out, HF.out, E.out]; rfl, by rw [HV.out, HF.out]; exact (OwnS.of_own hown).2.more (by omega) (Nat.le_refl _), by (repeat (first | exact Ext.refl _ | assumption | apply Ext.alloc | apply Ext.drew | apply Ext.drewN | (refine Ext.trans ?_ (by assumption))))⟩

end Go.Proofs.Ytjccilpjaaiicaa
