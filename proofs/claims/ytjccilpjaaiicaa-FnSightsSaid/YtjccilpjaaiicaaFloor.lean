/-
  Contracts: the points of a floor.
-/
import Derived.Test.YtjccilpjaaiicaaJ5
import Derived.Test.YtjccilpjaaiicaaJ4
import Derived.Test.YtjccilpjaaiicaaJ3
import Derived.Deep.RegionHeld3
namespace Go.Proofs.Ytjccilpjaaiicaa
open Go.RowKit

/-- a block of two numbers, whole -/
def Two (w : World) (b : Nat) (T : TypeId) (x y : Int) : Prop := w.heap[b]? = some (.cells #[.int .i64 x, .int .i64 y] T (0, 0))
theorem Two.set {w : World} {b : Nat} {T : TypeId} {x y : Int} (h : Two w b T x y) (x' y' : Int) : Two ((w.setCell ⟨b, 0, none⟩ (.int .i64 x')).setCell ⟨b, 1, none⟩ (.int .i64 y')) b T x' y' := by
  unfold Two at *
  simp [World.setCell, Array.getElem?_modify, h]
theorem Two.other {w : World} {b g o : Nat} {T : TypeId} {x y : Int} {v : Value} (h : Two w b T x y) (hg : g ≠ b) : Two (w.setCell ⟨g, o, none⟩ v) b T x y := (Below.heap_setCell _ _ _ _ (fun e => hg e.symm)).trans h
theorem Two.ext {w w' : World} {b : Nat} {T : TypeId} {x y : Int} (h : Two w b T x y) (hx : Ext w w') : Two w' b T x y := (hx.below.block b (heap_lt h)).trans h
theorem Two.cells {w : World} {b : Nat} {T : TypeId} {x y : Int} (h : Two w b T x y) : b < w.heap.size ∧ w.cell? ⟨b, 0, none⟩ = some (.int .i64 x) ∧ w.cell? ⟨b, 1, none⟩ = some (.int .i64 y) ∧ w.frozen? ⟨b, 0, none⟩ = false ∧ w.frozen? ⟨b, 1, none⟩ = false :=
  ⟨heap_lt h, by rw [blk_cell h]; rfl, by rw [blk_cell h]; rfl, blk_free h 0, blk_free h 1⟩
theorem Two.new (w : World) (T : TypeId) (x y : Int) : Two (w.alloc (.cells #[.int .i64 x, .int .i64 y] T)) w.heap.size T x y := heap_alloc_new w _

theorem two_fst (w : World) (o : Obj) (T : TypeId) (x y : Int) : Two ((((w.alloc o).alloc (.cells #[.int .i64 x, .int .i64 y] T)).alloc (.cells #[.int .i64 x, .int .i64 y] T)).drew) (w.heap.size + 1) T x y := by
  have h := Two.new (w.alloc o) T x y
  have e : (w.alloc o).heap.size = w.heap.size + 1 := by simp
  rw [e] at h
  exact h.ext (Ext.drew (Ext.alloc (Ext.refl _) _))
theorem two_snd (w : World) (o : Obj) (T : TypeId) (x y : Int) : Two ((((w.alloc o).alloc (.cells #[.int .i64 x, .int .i64 y] T)).alloc (.cells #[.int .i64 x, .int .i64 y] T)).drew) (w.heap.size + 1 + 1) T x y := by
  have h := Two.new ((w.alloc o).alloc (.cells #[.int .i64 x, .int .i64 y] T)) T x y
  have e : ((w.alloc o).alloc (.cells #[.int .i64 x, .int .i64 y] T)).heap.size = w.heap.size + 1 + 1 := by simp
  rw [e] at h
  exact h.ext (Ext.drew (Ext.refl _))


set_option maxRecDepth 100000 in
set_option maxHeartbeats 8000000 in
theorem floor_any (A : Option Addr) (l : List (Int × Int)) (c : Nat) (w : World) (hp : RPts w A l) (hr : roomB l = true) :
    Calls Try.prog 24 #[.agg #[.slice A l.length c]] w (RetP 28 (floorL l) w) := by
  obtain ⟨hf, h3⟩ := roomB_fine hr
  have h10 := hf.2
  have hn : l.length ≤ 1048576 := by omega
  obtain ⟨i0, hI, hZ, hS, hY⟩ := info_parts info_ipt
  obtain ⟨b, off, rfl⟩ := hp.some_ (by omega)
  have HB : Hid (∀ w', Ext (w.alloc (.cells #[.slice (some ⟨b, off, none⟩) l.length c] 26)) w' → w'.cell? ⟨w.heap.size, 0, none⟩ = some (.slice (some ⟨b, off, none⟩) l.length c) ∧ w.heap.size < w'.heap.size) := fun w' hx => by
    and_intros <;> (first | (have hz := hx.size; simp at hz; omega) | ((first | rw [hx.cells _ _ (by first | (simp; done) | (simp; omega))] | rw [hx.frozens _ _ (by first | (simp; done) | (simp; omega))]); (first | (simp [go_sem]; done) | (simp [go_sem, World.cell?_alloc_past]; done) | (simp [go_sem, World.frozen?]; done))))
  have hbd := fun k hk => box_bd hf (show 0 < l.length by omega) k hk
  have HBD := hide hbd
  clear hbd
  obtain ⟨hz, hx0, hy0⟩ := hp.cell (show 0 < l.length by omega)
  simp only [Nat.zero_mul, Nat.add_zero] at hx0 hy0
  have hne : l ≠ [] := fun e => by rw [e] at h3; simp at h3
  have hzz : b < (w.alloc (.cells #[.slice (some ⟨b, off, none⟩) l.length c] 26)).heap.size := by simp; omega
  have hl0 : 0 < l.length := by omega
  have hl1 : (0 : Int) < (l.length : Int) := by omega
  have g1 : b < w.heap.size + 1 := by omega
  have g2 : b < w.heap.size + 1 + 1 := by omega
  have g3 : b < w.heap.size + 1 + 1 + 1 := by omega
  go_enter Try.func24, Try.ntmps24
  go_wp2
  go_region_held3 (fun w' => w'.cell? ⟨w.heap.size, 0, none⟩ = some (.slice (some ⟨b, off, none⟩) l.length c) ∧ w'.cell? ⟨b, off, none⟩ = some (.int .i64 (gx l 0)) ∧ w'.cell? ⟨b, off + 1, none⟩ = some (.int .i64 (gy l 0))) (simp [*, go_sem, World.cell?_alloc_past, World.cell?_alloc_some]) (fail)
  · have k1 : Two (((w.alloc (.cells #[.slice (some ⟨b, off, none⟩) l.length c] 26)).alloc (.cells #[.int .i64 (gx l 0), .int .i64 (gy l 0)] 28)).alloc (.cells #[.int .i64 (gx l 0), .int .i64 (gy l 0)] 28)).drew (w.heap.size + 1) 28 (gx l 0) (gy l 0) := two_fst _ _ _ _ _
    have k2 : Two (((w.alloc (.cells #[.slice (some ⟨b, off, none⟩) l.length c] 26)).alloc (.cells #[.int .i64 (gx l 0), .int .i64 (gy l 0)] 28)).alloc (.cells #[.int .i64 (gx l 0), .int .i64 (gy l 0)] 28)).drew (w.heap.size + 1 + 1) 28 (gx l 0) (gy l 0) := two_snd _ _ _ _ _
    have dne : w.heap.size + 1 ≠ w.heap.size + 1 + 1 := by omega
    have xa : Ext (w.alloc (.cells #[.slice (some ⟨b, off, none⟩) l.length c] 26)) (((w.alloc (.cells #[.slice (some ⟨b, off, none⟩) l.length c] 26)).alloc (.cells #[.int .i64 (gx l 0), .int .i64 (gy l 0)] 28)).alloc (.cells #[.int .i64 (gx l 0), .int .i64 (gy l 0)] 28)).drew := by (repeat (first | exact Ext.refl _ | assumption | apply Ext.alloc | apply Ext.drew | apply Ext.drewN | (refine Ext.trans ?_ (by assumption))))
    have sa : w.heap.size + 1 + 1 < (((w.alloc (.cells #[.slice (some ⟨b, off, none⟩) l.length c] 26)).alloc (.cells #[.int .i64 (gx l 0), .int .i64 (gy l 0)] 28)).alloc (.cells #[.int .i64 (gx l 0), .int .i64 (gy l 0)] 28)).drew.heap.size := by simp
    have T1 : Two (((w.alloc (.cells #[.slice (some ⟨b, off, none⟩) l.length c] 26)).alloc (.cells #[.int .i64 (gx l 0), .int .i64 (gy l 0)] 28)).alloc (.cells #[.int .i64 (gx l 0), .int .i64 (gy l 0)] 28)).drew (w.heap.size + 1) 28 (gx l 0) (gy l 0) := by first | exact k1 | exact k2
    have T2 : Two (((w.alloc (.cells #[.slice (some ⟨b, off, none⟩) l.length c] 26)).alloc (.cells #[.int .i64 (gx l 0), .int .i64 (gy l 0)] 28)).alloc (.cells #[.int .i64 (gx l 0), .int .i64 (gy l 0)] 28)).drew (w.heap.size + 1 + 1) 28 (gx l 0) (gy l 0) := by first | exact k1 | exact k2
    clear k1 k2 hx0 hy0 hz hzz g1 g2 g3
    generalize (((w.alloc (.cells #[.slice (some ⟨b, off, none⟩) l.length c] 26)).alloc (.cells #[.int .i64 (gx l 0), .int .i64 (gy l 0)] 28)).alloc (.cells #[.int .i64 (gx l 0), .int .i64 (gy l 0)] 28)).drew = wa at xa sa T1 T2 ⊢
    have f0 := HB.out wa xa
    go_wp2
    clear f0
    go_loopw [22] (fun i wr => ∃ k : Nat, k ≤ l.length ∧ i = .int .i64 k ∧ Ext (w.alloc (.cells #[.slice (some ⟨b, off, none⟩) l.length c] 26)) wr ∧ w.heap.size + 1 + 1 < wr.heap.size ∧ Two wr (w.heap.size + 1) 28 (loX l k) (loY l k) ∧ Two wr (w.heap.size + 1 + 1) 28 (hiX l k) (hiY l k)) (fun i _ => l.length - (intOf i).toNat)
    case atStart => exact ⟨0, Nat.zero_le _, rfl, xa, sa, T1, T2⟩
    case round =>
      obtain ⟨k, hk, rfl, hbl, hsz, u1, u2⟩ := hrel
      obtain ⟨wq, rfl⟩ : ∃ wq : World, wq = wr := ⟨_, rfl⟩
      clear xa sa T1 T2
      have fb := HB.out wq hbl
      obtain ⟨a1, a2, a3, a4, a5⟩ := u1.cells
      obtain ⟨c1, c2, c3, c4, c5⟩ := u2.cells
      by_cases hlt : k < l.length
      · obtain ⟨hzq, hxk, hyk⟩ := (hp.ext (by (repeat (first | exact Ext.refl _ | assumption | apply Ext.alloc | apply Ext.drew | apply Ext.drewN | (refine Ext.trans ?_ (by assumption)))) : Ext w wq)).cell hlt
        go_wp2
        go_roundw
        case rel => exact ⟨k + 1, by omega, by go_num, by (repeat (first | exact Ext.refl _ | assumption | apply Ext.alloc | apply Ext.drew | apply Ext.drewN | (refine Ext.setCell ?_ (by simp; done) _) | (refine Ext.setCell ?_ (by simp; omega) _) | (refine Ext.trans ?_ (by assumption)))), by simp [size_setCell]; omega, by rw [loX_succ, loY_succ]; exact (((u1.set _ _).other (by first | exact dne | exact dne.symm)).other (by first | exact dne | exact dne.symm)).ext ((Ext.refl _).alloc _), by rw [hiX_succ, hiY_succ]; exact (((u2.other (by first | exact dne | exact dne.symm)).other (by first | exact dne | exact dne.symm)).set _ _).ext ((Ext.refl _).alloc _)⟩
        case measure => simp [intOf]; omega
      · have e : k = l.length := by omega
        subst e
        obtain ⟨⟨r1, r2⟩, ⟨r3, r4⟩, ⟨r5, r6⟩, ⟨r7, r8⟩, r9, r10⟩ := HBD.out l.length (Nat.le_refl _)
        obtain ⟨nx, hnx⟩ : ∃ nx : Nat, nx = (hiX l l.length - loX l l.length + 1).toNat := ⟨_, rfl⟩
        obtain ⟨ny, hny⟩ : ∃ ny : Nat, ny = (hiY l l.length - loY l l.length + 1).toNat := ⟨_, rfl⟩
        have HF := hide (show floorL l = rowsL l (loY l l.length) (loX l l.length) nx ny by rw [hnx, hny]; rfl)
        have nx1 : (nx : Int) = hiX l l.length - loX l l.length + 1 := by omega
        have ny1 : (ny : Int) = hiY l l.length - loY l l.length + 1 := by omega
        have NX := hide nx1
        have NY := hide ny1
        have nx2 : nx ≤ 81 := by omega
        have ny2 : ny ≤ 81 := by omega
        clear hnx hny nx1 ny1 hk hlt
        generalize loX l l.length = x0 at *
        generalize loY l l.length = y0 at *
        generalize hiX l l.length = x1 at *
        generalize hiY l l.length = y1 at *
        go_wp2
        go_loopw [7, 8] (fun out y wr => ∃ (j : Nat) (o : Value), j ≤ ny ∧ y = .int .i64 (y0 + j) ∧ o = out ∧ Ext wq wr ∧ wr.ownsRow wq.heap.size 28 2 o (rowsL l y0 x0 nx j).length (flat (rowsL l y0 x0 nx j))) (fun _ y _ => (y1 - intOf y + 1).toNat)
        case atStart => exact ⟨0, _, Nat.zero_le _, by simp, rfl, by (repeat (first | exact Ext.refl _ | assumption | apply Ext.alloc | apply Ext.drew | apply Ext.drewN | (refine Ext.trans ?_ (by assumption)))), rfl, .inr ⟨wq.heap.size, 0, #[], rfl, Nat.le_refl _, heap_alloc_new wq _, Nat.le_refl _, by unfold maxLen; omega, rfl, rfl⟩⟩
        case round =>
          obtain ⟨j, o, hj, rfl, ho, hbj, hown⟩ := hrel
          subst ho
          obtain ⟨wj, rfl⟩ : ∃ wj : World, wj = wr := ⟨_, rfl⟩
          obtain ⟨a1, a2, a3, a4, a5⟩ := (u1.ext hbj).cells
          obtain ⟨c1, c2, c3, c4, c5⟩ := (u2.ext hbj).cells
          have hle1 := rowsL_le l y0 x0 nx j
          have hle2 : j * nx ≤ 81 * 81 := Nat.mul_le_mul (by omega) nx2
          by_cases hjl : j < ny
          · have hyj : y0 + (j : Int) ≤ y1 := by have := NY.out; omega
            go_wp2
            go_loopw [7, 9] (fun out x wr => ∃ (i : Nat) (o : Value), i ≤ nx ∧ x = .int .i64 (x0 + i) ∧ o = out ∧ Ext wq wr ∧ wr.ownsRow wq.heap.size 28 2 o (rowsL l y0 x0 nx j ++ rowL l (y0 + j) x0 i).length (flat (rowsL l y0 x0 nx j ++ rowL l (y0 + j) x0 i))) (fun _ x _ => (x1 - intOf x + 1).toNat)
            case atStart => exact ⟨0, _, Nat.zero_le _, by simp, rfl, by (repeat (first | exact Ext.refl _ | assumption | apply Ext.alloc | apply Ext.drew | apply Ext.drewN | (refine Ext.trans ?_ (by assumption)))), by simpa [rowL] using hown⟩
            case round =>
              obtain ⟨i, o, hi, rfl, ho, hbi, hown2⟩ := hrel
              subst ho
              obtain ⟨wi, rfl⟩ : ∃ wi : World, wi = wr := ⟨_, rfl⟩
              obtain ⟨a1, a2, a3, a4, a5⟩ := (u1.ext hbi).cells
              obtain ⟨c1, c2, c3, c4, c5⟩ := (u2.ext hbi).cells
              have fbi := HB.out wi (by (repeat (first | exact Ext.refl _ | assumption | apply Ext.alloc | apply Ext.drew | apply Ext.drewN | (refine Ext.trans ?_ (by assumption)))))
              have hle3 := rowL_le l (y0 + j) x0 i
              by_cases hil : i < nx
              · have hxi : x0 + (i : Int) ≤ x1 := by have := NX.out; omega
                have HQ : Hid (∀ w', Ext (wi.alloc (.cells #[.int .i64 (x0 + i), .int .i64 (y0 + j)] 28)) w' → w'.cell? ⟨wi.heap.size, 0, none⟩ = some (.int .i64 (x0 + i)) ∧ w'.cell? ⟨wi.heap.size, 1, none⟩ = some (.int .i64 (y0 + j)) ∧ wi.heap.size < w'.heap.size) := fun w' hx => by
                  and_intros <;> (first | (have hz := hx.size; simp at hz; omega) | ((first | rw [hx.cells _ _ (by first | (simp; done) | (simp; omega))] | rw [hx.frozens _ _ (by first | (simp; done) | (simp; omega))]); (first | (simp [go_sem]; done) | (simp [go_sem, World.cell?_alloc_past]; done) | (simp [go_sem, World.frozen?]; done))))
                cases hv : (placeV l (x0 + i) (y0 + j) != 0)
                · have HS := hide (show rowL l (y0 + j) x0 (i + 1) = rowL l (y0 + j) x0 i by rw [rowL_succ, hv]; rfl)
                  go_wp2_with (go_at_call 42; refine (place_any _ _ _ _ _ _ (hp.ext (by (repeat (first | exact Ext.refl _ | assumption | apply Ext.alloc | apply Ext.drew | apply Ext.drewN | (refine Ext.trans ?_ (by assumption)))))) hn).mono ?_; rintro e w1 ⟨rfl, hb1⟩)
                  go_roundw
                  case rel => exact ⟨i + 1, _, by omega, by go_num, rfl, by (repeat (first | exact Ext.refl _ | assumption | apply Ext.alloc | apply Ext.drew | apply Ext.drewN | (refine Ext.trans ?_ (by assumption)))), by rw [HS.out]; exact ownsRow_ext hown2 (by (repeat (first | exact Ext.refl _ | assumption | apply Ext.alloc | apply Ext.drew | apply Ext.drewN | (refine Ext.trans ?_ (by assumption)))))⟩
                  case measure => simp [intOf]; omega
                · have HS := hide (show rowL l (y0 + j) x0 (i + 1) = rowL l (y0 + j) x0 i ++ [(x0 + i, y0 + j)] by rw [rowL_succ, hv]; rfl)
                  go_wp2_with (first | (go_at_call 42; refine (place_any _ _ _ _ _ _ (hp.ext (by (repeat (first | exact Ext.refl _ | assumption | apply Ext.alloc | apply Ext.drew | apply Ext.drewN | (refine Ext.trans ?_ (by assumption)))))) hn).mono ?_; rintro e w1 ⟨rfl, hb1⟩; have fq := HQ.out w1 (by (repeat (first | exact Ext.refl _ | assumption | apply Ext.alloc | apply Ext.drew | apply Ext.drewN | (refine Ext.trans ?_ (by assumption))))); have hsz1 := (show Ext wq w1 by (repeat (first | exact Ext.refl _ | assumption | apply Ext.alloc | apply Ext.drew | apply Ext.drewN | (refine Ext.trans ?_ (by assumption))))).size) | (at_builtin; refine wpList_app _ rfl (.tmp 74) (.tmp 76) _ rfl wq.heap.size 28 i0 _ 2 16 Try.underlying24 hI hZ hS hY rfl (by omega) _ _ (flat (rowsL l y0 x0 nx j ++ rowL l (y0 + j) x0 i)) (by rfl) (ownsRow_ext hown2 (by (repeat (first | exact Ext.refl _ | assumption | apply Ext.alloc | apply Ext.drew | apply Ext.drewN | (refine Ext.trans ?_ (by assumption)))))) ⟨w1.heap.size, 0, none⟩ 1 1 [.int .i64 (x0 + i), .int .i64 (y0 + j)] (by rfl) rfl (news_alloc w1 [.int .i64 (x0 + i), .int .i64 (y0 + j)] 28) (by simp [Value.oneCell']) (by unfold maxLen; rw [List.length_append]; omega) (by rw [List.length_append]; omega) (by simp; omega) ?_; intro v' w3 hown3 hg3 _))
                  have hx3 : Ext wq w3 := ext_grown (show Ext wq (w1.alloc (.cells #[.int .i64 (x0 + i), .int .i64 (y0 + j)] 28)) by (repeat (first | exact Ext.refl _ | assumption | apply Ext.alloc | apply Ext.drew | apply Ext.drewN | (refine Ext.trans ?_ (by assumption))))) hg3 (fun q hq => (hown2.lt q hq).1)
                  clear hown hown2 hg3
                  go_wp2
                  go_roundw
                  case rel => exact ⟨i + 1, _, by omega, by go_num, rfl, hx3, by rw [HS.out, ← List.append_assoc, flat_append, List.length_append]; exact hown3⟩
                  case measure => simp [intOf]; omega
              · have e : i = nx := by omega
                have E := hide e
                have hxi : ¬ x0 + (i : Int) ≤ x1 := by have := NX.out; omega
                clear e
                go_wp2
                go_roundw
                case rel => exact ⟨j + 1, _, by omega, by go_num, rfl, by (repeat (first | exact Ext.refl _ | assumption | apply Ext.alloc | apply Ext.drew | apply Ext.drewN | (refine Ext.trans ?_ (by assumption)))), by rw [rowsL_succ]; have h := hown2; rw [E.out] at h; exact h⟩
                case measure => simp [intOf]; omega
          · have e : j = ny := by omega
            have E := hide e
            have hyj : ¬ y0 + (j : Int) ≤ y1 := by have := NY.out; omega
            clear e
            obtain ⟨A', c', rfl⟩ := ownsRow_slice hown
            go_wp2
            go_ret
            rw [E.out] at hown
            exact ⟨A', c', by rw [HF.out, E.out]; rfl, by rw [HF.out]; exact (OwnS.of_own hown).2.more (by omega) (Nat.le_refl _), by (repeat (first | exact Ext.refl _ | assumption | apply Ext.alloc | apply Ext.drew | apply Ext.drewN | (refine Ext.trans ?_ (by assumption))))⟩
  · have k1 : Two (((w.alloc (.cells #[.slice (some ⟨b, off, none⟩) l.length c] 26)).alloc (.cells #[.int .i64 (gx l 0), .int .i64 (gy l 0)] 28)).alloc (.cells #[.int .i64 (gx l 0), .int .i64 (gy l 0)] 28)).drew (w.heap.size + 1) 28 (gx l 0) (gy l 0) := two_fst _ _ _ _ _
    have k2 : Two (((w.alloc (.cells #[.slice (some ⟨b, off, none⟩) l.length c] 26)).alloc (.cells #[.int .i64 (gx l 0), .int .i64 (gy l 0)] 28)).alloc (.cells #[.int .i64 (gx l 0), .int .i64 (gy l 0)] 28)).drew (w.heap.size + 1 + 1) 28 (gx l 0) (gy l 0) := two_snd _ _ _ _ _
    have dne : w.heap.size + 1 ≠ w.heap.size + 1 + 1 := by omega
    have xa : Ext (w.alloc (.cells #[.slice (some ⟨b, off, none⟩) l.length c] 26)) (((w.alloc (.cells #[.slice (some ⟨b, off, none⟩) l.length c] 26)).alloc (.cells #[.int .i64 (gx l 0), .int .i64 (gy l 0)] 28)).alloc (.cells #[.int .i64 (gx l 0), .int .i64 (gy l 0)] 28)).drew := by (repeat (first | exact Ext.refl _ | assumption | apply Ext.alloc | apply Ext.drew | apply Ext.drewN | (refine Ext.trans ?_ (by assumption))))
    have sa : w.heap.size + 1 + 1 < (((w.alloc (.cells #[.slice (some ⟨b, off, none⟩) l.length c] 26)).alloc (.cells #[.int .i64 (gx l 0), .int .i64 (gy l 0)] 28)).alloc (.cells #[.int .i64 (gx l 0), .int .i64 (gy l 0)] 28)).drew.heap.size := by simp
    have T1 : Two (((w.alloc (.cells #[.slice (some ⟨b, off, none⟩) l.length c] 26)).alloc (.cells #[.int .i64 (gx l 0), .int .i64 (gy l 0)] 28)).alloc (.cells #[.int .i64 (gx l 0), .int .i64 (gy l 0)] 28)).drew (w.heap.size + 1 + 1) 28 (gx l 0) (gy l 0) := by first | exact k1 | exact k2
    have T2 : Two (((w.alloc (.cells #[.slice (some ⟨b, off, none⟩) l.length c] 26)).alloc (.cells #[.int .i64 (gx l 0), .int .i64 (gy l 0)] 28)).alloc (.cells #[.int .i64 (gx l 0), .int .i64 (gy l 0)] 28)).drew (w.heap.size + 1) 28 (gx l 0) (gy l 0) := by first | exact k1 | exact k2
    clear k1 k2 hx0 hy0 hz hzz g1 g2 g3
    generalize (((w.alloc (.cells #[.slice (some ⟨b, off, none⟩) l.length c] 26)).alloc (.cells #[.int .i64 (gx l 0), .int .i64 (gy l 0)] 28)).alloc (.cells #[.int .i64 (gx l 0), .int .i64 (gy l 0)] 28)).drew = wa at xa sa T1 T2 ⊢
    have f0 := HB.out wa xa
    go_wp2
    clear f0
    go_loopw [22] (fun i wr => ∃ k : Nat, k ≤ l.length ∧ i = .int .i64 k ∧ Ext (w.alloc (.cells #[.slice (some ⟨b, off, none⟩) l.length c] 26)) wr ∧ w.heap.size + 1 + 1 < wr.heap.size ∧ Two wr (w.heap.size + 1 + 1) 28 (loX l k) (loY l k) ∧ Two wr (w.heap.size + 1) 28 (hiX l k) (hiY l k)) (fun i _ => l.length - (intOf i).toNat)
    case atStart => exact ⟨0, Nat.zero_le _, rfl, xa, sa, T1, T2⟩
    case round =>
      obtain ⟨k, hk, rfl, hbl, hsz, u1, u2⟩ := hrel
      obtain ⟨wq, rfl⟩ : ∃ wq : World, wq = wr := ⟨_, rfl⟩
      clear xa sa T1 T2
      have fb := HB.out wq hbl
      obtain ⟨a1, a2, a3, a4, a5⟩ := u1.cells
      obtain ⟨c1, c2, c3, c4, c5⟩ := u2.cells
      by_cases hlt : k < l.length
      · obtain ⟨hzq, hxk, hyk⟩ := (hp.ext (by (repeat (first | exact Ext.refl _ | assumption | apply Ext.alloc | apply Ext.drew | apply Ext.drewN | (refine Ext.trans ?_ (by assumption)))) : Ext w wq)).cell hlt
        go_wp2
        go_roundw
        case rel => exact ⟨k + 1, by omega, by go_num, by (repeat (first | exact Ext.refl _ | assumption | apply Ext.alloc | apply Ext.drew | apply Ext.drewN | (refine Ext.setCell ?_ (by simp; done) _) | (refine Ext.setCell ?_ (by simp; omega) _) | (refine Ext.trans ?_ (by assumption)))), by simp [size_setCell]; omega, by rw [loX_succ, loY_succ]; exact (((u1.set _ _).other (by first | exact dne | exact dne.symm)).other (by first | exact dne | exact dne.symm)).ext ((Ext.refl _).alloc _), by rw [hiX_succ, hiY_succ]; exact (((u2.other (by first | exact dne | exact dne.symm)).other (by first | exact dne | exact dne.symm)).set _ _).ext ((Ext.refl _).alloc _)⟩
        case measure => simp [intOf]; omega
      · have e : k = l.length := by omega
        subst e
        obtain ⟨⟨r1, r2⟩, ⟨r3, r4⟩, ⟨r5, r6⟩, ⟨r7, r8⟩, r9, r10⟩ := HBD.out l.length (Nat.le_refl _)
        obtain ⟨nx, hnx⟩ : ∃ nx : Nat, nx = (hiX l l.length - loX l l.length + 1).toNat := ⟨_, rfl⟩
        obtain ⟨ny, hny⟩ : ∃ ny : Nat, ny = (hiY l l.length - loY l l.length + 1).toNat := ⟨_, rfl⟩
        have HF := hide (show floorL l = rowsL l (loY l l.length) (loX l l.length) nx ny by rw [hnx, hny]; rfl)
        have nx1 : (nx : Int) = hiX l l.length - loX l l.length + 1 := by omega
        have ny1 : (ny : Int) = hiY l l.length - loY l l.length + 1 := by omega
        have NX := hide nx1
        have NY := hide ny1
        have nx2 : nx ≤ 81 := by omega
        have ny2 : ny ≤ 81 := by omega
        clear hnx hny nx1 ny1 hk hlt
        generalize loX l l.length = x0 at *
        generalize loY l l.length = y0 at *
        generalize hiX l l.length = x1 at *
        generalize hiY l l.length = y1 at *
        go_wp2
        go_loopw [7, 8] (fun out y wr => ∃ (j : Nat) (o : Value), j ≤ ny ∧ y = .int .i64 (y0 + j) ∧ o = out ∧ Ext wq wr ∧ wr.ownsRow wq.heap.size 28 2 o (rowsL l y0 x0 nx j).length (flat (rowsL l y0 x0 nx j))) (fun _ y _ => (y1 - intOf y + 1).toNat)
        case atStart => exact ⟨0, _, Nat.zero_le _, by simp, rfl, by (repeat (first | exact Ext.refl _ | assumption | apply Ext.alloc | apply Ext.drew | apply Ext.drewN | (refine Ext.trans ?_ (by assumption)))), rfl, .inr ⟨wq.heap.size, 0, #[], rfl, Nat.le_refl _, heap_alloc_new wq _, Nat.le_refl _, by unfold maxLen; omega, rfl, rfl⟩⟩
        case round =>
          obtain ⟨j, o, hj, rfl, ho, hbj, hown⟩ := hrel
          subst ho
          obtain ⟨wj, rfl⟩ : ∃ wj : World, wj = wr := ⟨_, rfl⟩
          obtain ⟨a1, a2, a3, a4, a5⟩ := (u1.ext hbj).cells
          obtain ⟨c1, c2, c3, c4, c5⟩ := (u2.ext hbj).cells
          have hle1 := rowsL_le l y0 x0 nx j
          have hle2 : j * nx ≤ 81 * 81 := Nat.mul_le_mul (by omega) nx2
          by_cases hjl : j < ny
          · have hyj : y0 + (j : Int) ≤ y1 := by have := NY.out; omega
            go_wp2
            go_loopw [7, 9] (fun out x wr => ∃ (i : Nat) (o : Value), i ≤ nx ∧ x = .int .i64 (x0 + i) ∧ o = out ∧ Ext wq wr ∧ wr.ownsRow wq.heap.size 28 2 o (rowsL l y0 x0 nx j ++ rowL l (y0 + j) x0 i).length (flat (rowsL l y0 x0 nx j ++ rowL l (y0 + j) x0 i))) (fun _ x _ => (x1 - intOf x + 1).toNat)
            case atStart => exact ⟨0, _, Nat.zero_le _, by simp, rfl, by (repeat (first | exact Ext.refl _ | assumption | apply Ext.alloc | apply Ext.drew | apply Ext.drewN | (refine Ext.trans ?_ (by assumption)))), by simpa [rowL] using hown⟩
            case round =>
              obtain ⟨i, o, hi, rfl, ho, hbi, hown2⟩ := hrel
              subst ho
              obtain ⟨wi, rfl⟩ : ∃ wi : World, wi = wr := ⟨_, rfl⟩
              obtain ⟨a1, a2, a3, a4, a5⟩ := (u1.ext hbi).cells
              obtain ⟨c1, c2, c3, c4, c5⟩ := (u2.ext hbi).cells
              have fbi := HB.out wi (by (repeat (first | exact Ext.refl _ | assumption | apply Ext.alloc | apply Ext.drew | apply Ext.drewN | (refine Ext.trans ?_ (by assumption)))))
              have hle3 := rowL_le l (y0 + j) x0 i
              by_cases hil : i < nx
              · have hxi : x0 + (i : Int) ≤ x1 := by have := NX.out; omega
                have HQ : Hid (∀ w', Ext (wi.alloc (.cells #[.int .i64 (x0 + i), .int .i64 (y0 + j)] 28)) w' → w'.cell? ⟨wi.heap.size, 0, none⟩ = some (.int .i64 (x0 + i)) ∧ w'.cell? ⟨wi.heap.size, 1, none⟩ = some (.int .i64 (y0 + j)) ∧ wi.heap.size < w'.heap.size) := fun w' hx => by
                  and_intros <;> (first | (have hz := hx.size; simp at hz; omega) | ((first | rw [hx.cells _ _ (by first | (simp; done) | (simp; omega))] | rw [hx.frozens _ _ (by first | (simp; done) | (simp; omega))]); (first | (simp [go_sem]; done) | (simp [go_sem, World.cell?_alloc_past]; done) | (simp [go_sem, World.frozen?]; done))))
                cases hv : (placeV l (x0 + i) (y0 + j) != 0)
                · have HS := hide (show rowL l (y0 + j) x0 (i + 1) = rowL l (y0 + j) x0 i by rw [rowL_succ, hv]; rfl)
                  go_wp2_with (go_at_call 42; refine (place_any _ _ _ _ _ _ (hp.ext (by (repeat (first | exact Ext.refl _ | assumption | apply Ext.alloc | apply Ext.drew | apply Ext.drewN | (refine Ext.trans ?_ (by assumption)))))) hn).mono ?_; rintro e w1 ⟨rfl, hb1⟩)
                  go_roundw
                  case rel => exact ⟨i + 1, _, by omega, by go_num, rfl, by (repeat (first | exact Ext.refl _ | assumption | apply Ext.alloc | apply Ext.drew | apply Ext.drewN | (refine Ext.trans ?_ (by assumption)))), by rw [HS.out]; exact ownsRow_ext hown2 (by (repeat (first | exact Ext.refl _ | assumption | apply Ext.alloc | apply Ext.drew | apply Ext.drewN | (refine Ext.trans ?_ (by assumption)))))⟩
                  case measure => simp [intOf]; omega
                · have HS := hide (show rowL l (y0 + j) x0 (i + 1) = rowL l (y0 + j) x0 i ++ [(x0 + i, y0 + j)] by rw [rowL_succ, hv]; rfl)
                  go_wp2_with (first | (go_at_call 42; refine (place_any _ _ _ _ _ _ (hp.ext (by (repeat (first | exact Ext.refl _ | assumption | apply Ext.alloc | apply Ext.drew | apply Ext.drewN | (refine Ext.trans ?_ (by assumption)))))) hn).mono ?_; rintro e w1 ⟨rfl, hb1⟩; have fq := HQ.out w1 (by (repeat (first | exact Ext.refl _ | assumption | apply Ext.alloc | apply Ext.drew | apply Ext.drewN | (refine Ext.trans ?_ (by assumption))))); have hsz1 := (show Ext wq w1 by (repeat (first | exact Ext.refl _ | assumption | apply Ext.alloc | apply Ext.drew | apply Ext.drewN | (refine Ext.trans ?_ (by assumption))))).size) | (at_builtin; refine wpList_app _ rfl (.tmp 74) (.tmp 76) _ rfl wq.heap.size 28 i0 _ 2 16 Try.underlying24 hI hZ hS hY rfl (by omega) _ _ (flat (rowsL l y0 x0 nx j ++ rowL l (y0 + j) x0 i)) (by rfl) (ownsRow_ext hown2 (by (repeat (first | exact Ext.refl _ | assumption | apply Ext.alloc | apply Ext.drew | apply Ext.drewN | (refine Ext.trans ?_ (by assumption)))))) ⟨w1.heap.size, 0, none⟩ 1 1 [.int .i64 (x0 + i), .int .i64 (y0 + j)] (by rfl) rfl (news_alloc w1 [.int .i64 (x0 + i), .int .i64 (y0 + j)] 28) (by simp [Value.oneCell']) (by unfold maxLen; rw [List.length_append]; omega) (by rw [List.length_append]; omega) (by simp; omega) ?_; intro v' w3 hown3 hg3 _))
                  have hx3 : Ext wq w3 := ext_grown (show Ext wq (w1.alloc (.cells #[.int .i64 (x0 + i), .int .i64 (y0 + j)] 28)) by (repeat (first | exact Ext.refl _ | assumption | apply Ext.alloc | apply Ext.drew | apply Ext.drewN | (refine Ext.trans ?_ (by assumption))))) hg3 (fun q hq => (hown2.lt q hq).1)
                  clear hown hown2 hg3
                  go_wp2
                  go_roundw
                  case rel => exact ⟨i + 1, _, by omega, by go_num, rfl, hx3, by rw [HS.out, ← List.append_assoc, flat_append, List.length_append]; exact hown3⟩
                  case measure => simp [intOf]; omega
              · have e : i = nx := by omega
                have E := hide e
                have hxi : ¬ x0 + (i : Int) ≤ x1 := by have := NX.out; omega
                clear e
                go_wp2
                go_roundw
                case rel => exact ⟨j + 1, _, by omega, by go_num, rfl, by (repeat (first | exact Ext.refl _ | assumption | apply Ext.alloc | apply Ext.drew | apply Ext.drewN | (refine Ext.trans ?_ (by assumption)))), by rw [rowsL_succ]; have h := hown2; rw [E.out] at h; exact h⟩
                case measure => simp [intOf]; omega
          · have e : j = ny := by omega
            have E := hide e
            have hyj : ¬ y0 + (j : Int) ≤ y1 := by have := NY.out; omega
            clear e
            obtain ⟨A', c', rfl⟩ := ownsRow_slice hown
            go_wp2
            go_ret
            rw [E.out] at hown
            exact ⟨A', c', by rw [HF.out, E.out]; rfl, by rw [HF.out]; exact (OwnS.of_own hown).2.more (by omega) (Nat.le_refl _), by (repeat (first | exact Ext.refl _ | assumption | apply Ext.alloc | apply Ext.drew | apply Ext.drewN | (refine Ext.trans ?_ (by assumption))))⟩

end Go.Proofs.Ytjccilpjaaiicaa
