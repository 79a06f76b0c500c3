/-
  Contracts: CutRoom, the program's and the reference's.
-/
import Derived.Test.YtjccilpjaaiicaaJ3
import Derived.Test.YtjccilpjaaiicaaJ6
import Derived.Test.YtjccilpjaaiicaaSDiag2
namespace Go.Proofs.Ytjccilpjaaiicaa
open Go.RowKit

/-- CutRoom, as both texts give it -/
def cutOk (l : List (Int × Int)) (i k : Int) : Bool := diagB l i k && (roomB (stL l i.toNat k.toNat) && roomB (stL l k.toNat i.toNat))
def cutA (l : List (Int × Int)) (i k : Int) : List (Int × Int) := if cutOk l i k = true then stL l i.toNat k.toNat else []
def cutB2 (l : List (Int × Int)) (i k : Int) : List (Int × Int) := if cutOk l i k = true then stL l k.toNat i.toNat else []

/-- a call that returns two new rooms, apart, and a bool -/
def RetCut (T : TypeId) (x y : List (Int × Int)) (ok : Bool) (w : World) (e : Ending) (w' : World) : Prop :=
  ∃ A c B d a1 a2 b1 b2, e = .returned (.tuple #[.agg #[.slice A x.length c], .agg #[.slice B y.length d], .bool ok]) ∧ OwnS w' a1 a2 T A x ∧ OwnS w' b1 b2 T B y ∧ w.heap.size ≤ a1 ∧ a2 ≤ w'.heap.size ∧ w.heap.size ≤ b1 ∧ b2 ≤ w'.heap.size ∧ (a2 ≤ b1 ∨ b2 ≤ a1) ∧ Ext w w'

theorem diagB_at {l : List (Int × Int)} {i k : Int} (h : diagB l i k = true) : ∃ m p : Nat, i = m ∧ k = p ∧ m < l.length ∧ p < l.length ∧ m ≠ p ∧ roomB l = true := by
  unfold diagB at h
  simp only [Bool.and_eq_true] at h
  obtain ⟨h1, h2, h3, h4⟩ := h
  obtain ⟨m, rfl, hm⟩ := inB_nat h2
  obtain ⟨p, rfl, hp⟩ := inB_nat h3
  refine ⟨m, p, rfl, rfl, hm, hp, fun e => ?_, h1⟩
  subst e
  unfold dgN at h4
  simp at h4

theorem ownS_box {w : World} {lo hi b : Nat} {A : Option Addr} {l : List (Int × Int)} {v : Value} (h : OwnS w lo hi 28 A l) (hb : OneC w b 26 v) (u : Value) : OwnS (w.setCell ⟨b, 0, none⟩ u) lo hi 28 A l := fun hl => by
  obtain ⟨g, e, h1, h2, h3⟩ := h hl
  refine ⟨g, e, h1, h2, h3.same (Below.heap_setCell _ _ _ _ (fun e2 => ?_))⟩
  obtain ⟨cs, h4, _⟩ := h3
  have e3 : g = b := by first | exact e2 | exact e2.symm
  subst e3
  unfold OneC at hb
  rw [h4] at hb
  injection hb with hb
  injection hb with _ hb _
  exact absurd hb (by decide)
theorem ownS_pt {w : World} {lo hi : Nat} {A : Option Addr} {l : List (Int × Int)} (h : OwnS w lo hi 28 A l) (hl : 0 < l.length) : ∃ g, A = some ⟨g, 0, none⟩ ∧ lo ≤ g ∧ OwnS w g (g + 1) 28 A l ∧ g < w.heap.size := by
  obtain ⟨g, e, h1, h2, h3⟩ := h hl
  exact ⟨g, e, h1, fun _ => ⟨g, e, Nat.le_refl _, Nat.lt_succ_self _, h3⟩, h3.lt⟩

/-- a new box with an empty room -/
def BoxN (lo : Nat) (v : Value) (w : World) : Prop := ∃ b, v = .pointer (some ⟨b, 0, none⟩) ∧ lo ≤ b ∧ OneC w b 26 (.slice none 0 0)
theorem BoxN_stable (lo : Nat) : Stable (BoxN lo) := by
  rintro v w w' ⟨b, rfl, h1, h2⟩ hx
  exact ⟨b, rfl, h1, h2.ext hx⟩
theorem BoxN_new {lo : Nat} (w : World) (h : lo ≤ w.heap.size) : BoxN lo (.pointer (some ⟨w.heap.size, 0, none⟩)) (w.alloc (.cells #[.slice none 0 0] 26)) := ⟨_, rfl, h, OneC.new w _ _⟩
theorem BoxN_ne {lo : Nat} (v : Value) (w : World) (h : BoxN lo v w) : v ≠ .pointer (some ⟨w.heap.size, 0, none⟩) := by
  obtain ⟨b, rfl, _, h2⟩ := h
  intro e
  injection e with e
  injection e with e
  injection e with e
  have := h2.cell.1
  omega
theorem OneC.set_ne {w : World} {b b' : Nat} {T : TypeId} {v : Value} (h : OneC w b T v) (hne : b' ≠ b) (u : Value) : OneC (w.setCell ⟨b', 0, none⟩ u) b T v := (Below.heap_setCell _ _ _ _ (by first | exact hne | exact hne.symm)).trans h
/-- a room of the call's own -/
def RoomS (lo : Nat) (V : List (Int × Int)) (v : Value) (w : World) : Prop := ∃ A c, v = .agg #[.slice A V.length c] ∧ OwnS w lo w.heap.size 28 A V
theorem RoomS_stable (lo : Nat) (V : List (Int × Int)) : Stable (RoomS lo V) := by
  rintro v w w' ⟨A, c, rfl, h⟩ hx
  exact ⟨A, c, rfl, (h.ext hx).more (Nat.le_refl _) hx.size⟩

/-- two own rows that begin otherwise lie in two blocks -/
theorem ownS_apart {w : World} {lo hi lo' hi' g g' : Nat} {T : TypeId} {l l' : List (Int × Int)} (h : OwnS w lo hi T (some ⟨g, 0, none⟩) l) (h' : OwnS w lo' hi' T (some ⟨g', 0, none⟩) l') (h1 : 0 < l.length) (h2 : 0 < l'.length) (hne : (gx l 0, gy l 0) ≠ (gx l' 0, gy l' 0)) : g ≠ g' := by
  rintro rfl
  obtain ⟨g1, e1, _, _, q1⟩ := h h1
  obtain ⟨g2, e2, _, _, q2⟩ := h' h2
  injection e1 with e1
  injection e1 with e1
  injection e2 with e2
  injection e2 with e2
  subst e1
  rw [← e2] at q2
  apply hne
  have a1 := q1.cellx h1
  have a2 := q1.celly h1
  rw [q2.cellx h2] at a1
  rw [q2.celly h2] at a2
  injection a1 with a1
  injection a1 with _ a1
  injection a2 with a2
  injection a2 with _ a2
  rw [a1, a2]
theorem stL_first {l : List (Int × Int)} {i k : Nat} (hi : i < l.length) : (gx (stL l i k) 0, gy (stL l i k) 0) = (gx l i, gy l i) := by
  have e : (stL l i k).getD 0 (0, 0) = l.getD i (0, 0) := by
    unfold stL rotL
    rw [List.range_succ_eq_map, List.map_cons, List.getD_cons_zero, Nat.add_zero, Nat.mod_eq_of_lt hi]
  unfold gx gy
  rw [e]

set_option maxRecDepth 100000 in
set_option maxHeartbeats 3200000 in
theorem CutRoom_any (A : Option Addr) (l : List (Int × Int)) (c : Nat) (i k : Int) (w : World) (hp : RPts w A l) (hn : l.length ≤ 1048576) :
    Calls Try.prog 14 #[.agg #[.slice A l.length c], .int .i64 i, .int .i64 k] w (RetCut 28 (cutA l i k) (cutB2 l i k) (cutOk l i k) w) := by
  have HB : Hid (∀ w', Ext (((w.alloc (.cells #[.slice A l.length c] 26)).alloc (.cells #[.slice none 0 0] 26)).alloc (.cells #[.slice none 0 0] 26)) w' → w'.cell? ⟨w.heap.size, 0, none⟩ = some (.slice A l.length c) ∧ w.heap.size < w'.heap.size ∧ w'.cell? ⟨w.heap.size + 1, 0, none⟩ = some (.slice none 0 0) ∧ w'.frozen? ⟨w.heap.size + 1, 0, none⟩ = false ∧ w.heap.size + 1 < w'.heap.size ∧ w'.cell? ⟨w.heap.size + 1 + 1, 0, none⟩ = some (.slice none 0 0) ∧ w'.frozen? ⟨w.heap.size + 1 + 1, 0, none⟩ = false ∧ w.heap.size + 1 + 1 < w'.heap.size) := fun w' hx => by
    and_intros <;> (first | (have hz := hx.size; simp at hz; omega) | ((first | rw [hx.cells _ _ (by first | (simp; done) | (simp; omega))] | rw [hx.frozens _ _ (by first | (simp; done) | (simp; omega))]); (first | (simp [go_sem]; done) | (simp [go_sem, World.cell?_alloc_past]; done) | (simp [go_sem, World.frozen?]; done))))
  cases hd : diagB l i k
  · have HV := hide (show cutOk l i k = false by simp [cutOk, hd])
    go_enter Try.func14, Try.ntmps14
    go_wp2_with (go_at_call 13; refine (IsDiagonal_any _ _ _ _ _ _ (hp.ext (by (repeat (first | exact Ext.refl _ | assumption | apply Ext.alloc | apply Ext.drew | apply Ext.drewN | (refine Ext.trans ?_ (by assumption)))))) hn).mono ?_; rw [hd]; rintro e w1 ⟨rfl, hb1⟩; have f1 := HB.out w1 (by (repeat (first | exact Ext.refl _ | assumption | apply Ext.alloc | apply Ext.drew | apply Ext.drewN | (refine Ext.trans ?_ (by assumption))))))
    refine bodyPost_ret (v := .tuple #[.agg #[.slice none 0 0], .agg #[.slice none 0 0], .bool false]) (by simp [results, Try.results14, go_sem, *]) rfl ?_
    exact ⟨none, 0, none, 0, w.heap.size, w.heap.size, w.heap.size, w.heap.size, by unfold cutA cutB2; rw [HV.out]; rfl, by unfold cutA; rw [HV.out]; exact OwnS.nil, by unfold cutB2; rw [HV.out]; exact OwnS.nil, Nat.le_refl _, by simp only [size_setCell]; exact (show Ext w w1 by (repeat (first | exact Ext.refl _ | assumption | apply Ext.alloc | apply Ext.drew | apply Ext.drewN | (refine Ext.trans ?_ (by assumption))))).size, Nat.le_refl _, by simp only [size_setCell]; exact (show Ext w w1 by (repeat (first | exact Ext.refl _ | assumption | apply Ext.alloc | apply Ext.drew | apply Ext.drewN | (refine Ext.trans ?_ (by assumption))))).size, .inl (Nat.le_refl _), ((show Ext w w1 by (repeat (first | exact Ext.refl _ | assumption | apply Ext.alloc | apply Ext.drew | apply Ext.drewN | (refine Ext.trans ?_ (by assumption))))).setCell (by simp) _).setCell (by simp; try omega) _⟩
  · obtain ⟨m, p, rfl, rfl, hm, hpl, hmp, hr⟩ := diagB_at hd
    obtain ⟨a, ha⟩ : ∃ a, a = stL l m p := ⟨_, rfl⟩
    obtain ⟨a2, ha2⟩ : ∃ a, a = stL l p m := ⟨_, rfl⟩
    have hla : a.length ≤ 1048576 := by rw [ha, stL_length]; have := gap_lt hm hpl; omega
    have hla2 : a2.length ≤ 1048576 := by rw [ha2, stL_length]; have := gap_lt hpl hm; omega
    have hz1 : 0 < a.length := by rw [ha, stL_length]; omega
    have hz2 : 0 < a2.length := by rw [ha2, stL_length]; omega
    have hne : (gx a 0, gy a 0) ≠ (gx a2 0, gy a2 0) := by
      rw [ha, ha2, stL_first hm, stL_first hpl]
      exact fun e => hmp (nodup_getD (d := ((0, 0) : Int × Int)) (room_nodup hr) hm hpl e)
    have HNE := hide hne
    have HV0 := hide (show cutOk l m p = (roomB a && roomB a2) by simp [cutOk, hd, ha, ha2])
    have HA := hide ha
    have HA2 := hide ha2
    clear ha ha2 hmp hne
    go_enter Try.func14, Try.ntmps14
    go_wp2_with fail
    refine (IsDiagonal_any _ _ _ _ _ _ (hp.ext (by (repeat (first | exact Ext.refl _ | assumption | apply Ext.alloc | apply Ext.drew | apply Ext.drewN | (refine Ext.trans ?_ (by assumption)))))) hn).mono ?_
    rw [hd]
    rintro e w1 ⟨rfl, hb1⟩
    have f1 := HB.out w1 (by (repeat (first | exact Ext.refl _ | assumption | apply Ext.alloc | apply Ext.drew | apply Ext.drewN | (refine Ext.trans ?_ (by assumption)))))
    go_wp2
    refine wp_flow_tail_d 10 8 9 (.cells #[.slice none 0 0] 26) (by kernel_rfl) (by kernel_rfl) (by kernel_rfl) (by kernel_rfl) (fun u => ⟨#[_, _, _, _, _, _, _, _, _, u 8, u 9, _, _, _, _, _, _, _, u 0, u 1, u 2, u 3, u 4, u 5, u 6, u 7, _, _, _, _, _, _, _, _, _, _, _, _], _⟩) (fun i => List.getD [_, _, _, _, _, _, _, _, _, _] i undef) [is ?v1_0, is ?v1_1, is ?v1_2, (RoomS w1.heap.size a), is ?v1_4, is ?v1_5, is ?v1_6, (RoomS w1.heap.size a2), (BoxN w1.heap.size), (BoxN w1.heap.size)] (fun w' => w1.heap.size ≤ w'.heap.size ∧ w'.cell? ⟨w.heap.size, 0, none⟩ = some (.slice A l.length c) ∧ w.heap.size < w'.heap.size ∧ w'.cell? ⟨w.heap.size + 1, 0, none⟩ = some (.slice none 0 0) ∧ w'.frozen? ⟨w.heap.size + 1, 0, none⟩ = false ∧ w.heap.size + 1 < w'.heap.size ∧ w'.cell? ⟨w.heap.size + 1 + 1, 0, none⟩ = some (.slice none 0 0) ∧ w'.frozen? ⟨w.heap.size + 1 + 1, 0, none⟩ = false ∧ w.heap.size + 1 + 1 < w'.heap.size) _ rfl ?hC1 ?hs1 ?hV1 (by decide) ?hA1 ?hB1 ?hVA1 ?hVB1 ?hLA1 ?hLB1 (by decide) (by decide) ?fin1
    case hC1 => exact fun w' hq => ⟨(show Ext w1 w' from hq).size, HB.out w' (by (repeat (first | exact Ext.refl _ | assumption | apply Ext.alloc | apply Ext.drew | apply Ext.drewN | (refine Ext.trans ?_ (by assumption)))))⟩
    case hs1 =>
      repeat' (first
        | exact FSteps.nil
        | refine FSteps.cons ?_ ?_
        | (refine FStep.off_ _ _ _ rfl rfl ?_ (fun _ => rfl) ?_; (focus (intro u w hd; simp [vOf, is, Region.binds] at hd; simp [hd])); (intro w'; exact rfl); done)
        | ((first
            | refine FStep.plain rfl ?_
            | (refine FStep.on_ _ _ _ rfl rfl ?_ ?_; (focus (intro u w hd; simp [vOf, is, Region.binds] at hd; simp [hd]))))
           intro u w hW hC hd K hK
           (try simp [vOf, is, Region.binds] at hd)
           simp only [upd, Nat.reduceEqDiff, if_true, if_false] at hK
           (try simp only [hd] at hK)
           go_simp
           (first
             | (refine hK _ _ ?_ ?_; (first | exact rfl | exact BoxN_new _ hC.1); (repeat (first | exact Ext.refl _ | assumption | apply Ext.alloc | apply Ext.drew | apply Ext.drewN | (refine Ext.trans ?_ (by assumption)))))
             | (go_at_call 30; refine (stretch_any _ _ _ _ _ _ (hp.ext (by (repeat (first | exact Ext.refl _ | assumption | apply Ext.alloc | apply Ext.drew | apply Ext.drewN | (refine Ext.trans ?_ (by assumption)))))) hn (by first | exact hm | exact hpl) (by first | exact hpl | exact hm)).mono ?_; (first | rw [← HA.out] | rw [← HA2.out]); rintro e w1 ⟨A1, c1, rfl, o1, hb⟩; (try go_simp); refine hK _ _ ?_ ?_; exact ⟨A1, c1, rfl, o1.more hW.size (Nat.le_refl _)⟩; (repeat (first | exact Ext.refl _ | assumption | apply Ext.alloc | apply Ext.drew | apply Ext.drewN | (refine Ext.trans ?_ (by assumption))))))))
    case hV1 => (simp only [List.forall_mem_cons]; simp [stable_is, RoomS_stable, BoxN_stable])
    case hA1 => (intro o ho; simp at ho; subst ho; refine ⟨rfl, fun u w K hK => ?_⟩; simp only [upd, Nat.reduceEqDiff, if_true, if_false] at hK; go_simp; exact hK)
    case hB1 => (intro o ho; simp at ho; subst ho; refine ⟨rfl, fun u w K hK => ?_⟩; simp only [upd, Nat.reduceEqDiff, if_true, if_false] at hK; go_simp; exact hK)
    case hVA1 => exact fun w hx => BoxN_new w hx.size
    case hVB1 => exact fun w hx => BoxN_new w hx.size
    case hLA1 => exact fun v w h => BoxN_ne v w h
    case hLB1 => exact fun v w h => BoxN_ne v w h
    intro u w2 hW2 hC2 hd hdist
    simp only [AllV, is] at hd
    have hs3 := hd.2.2.2.1
    have hs7 := hd.2.2.2.2.2.2.2.1
    have hs8 := hd.2.2.2.2.2.2.2.2.1
    have hs9 := hd.2.2.2.2.2.2.2.2.2.1
    simp only [List.drop_succ_cons, List.drop_zero]
    simp only [hd]
    clear hd
    obtain ⟨A1, c1, hu3, o1⟩ := hs3
    obtain ⟨A2, c2, hu7, o2⟩ := hs7
    obtain ⟨b8, hu8, hb8, n8⟩ := hs8
    obtain ⟨b9, hu9, hb9, n9⟩ := hs9
    have hbne : b8 ≠ b9 := fun e => hdist (by rw [hu8, hu9, e])
    simp only [hu3, hu7, hu8, hu9]
    obtain ⟨g1, rfl, hg1, p1, hg1'⟩ := ownS_pt o1 hz1
    obtain ⟨g2, rfl, hg2, p2, hg2'⟩ := ownS_pt o2 hz2
    have hap := ownS_apart p1 p2 hz1 hz2 HNE.out
    obtain ⟨wd, rfl⟩ : ∃ wd : World, wd = w2 := ⟨_, rfl⟩
    have n9' := n9.set_ne hbne (.slice (some ⟨g1, 0, none⟩) a.length c1)
    have P1 := ownS_box (ownS_box p1 n8 (.slice (some ⟨g1, 0, none⟩) a.length c1)) n9' (.slice (some ⟨g2, 0, none⟩) a2.length c2)
    have P2 := ownS_box (ownS_box p2 n8 (.slice (some ⟨g1, 0, none⟩) a.length c1)) n9' (.slice (some ⟨g2, 0, none⟩) a2.length c2)
    have N8 := (n8.set (.slice (some ⟨g1, 0, none⟩) a.length c1)).set_ne hbne.symm (.slice (some ⟨g2, 0, none⟩) a2.length c2)
    have N9 := n9'.set (.slice (some ⟨g2, 0, none⟩) a2.length c2)
    have s1 := (show Ext (((w.alloc (.cells #[.slice A l.length c] 26)).alloc (.cells #[.slice none 0 0] 26)).alloc (.cells #[.slice none 0 0] 26)) w1 by (repeat (first | exact Ext.refl _ | assumption | apply Ext.alloc | apply Ext.drew | apply Ext.drewN | (refine Ext.trans ?_ (by assumption))))).size
    simp at s1
    have sd := (show Ext w1 wd by (repeat (first | exact Ext.refl _ | assumption | apply Ext.alloc | apply Ext.drew | apply Ext.drewN | (refine Ext.trans ?_ (by assumption))))).size
    have hxs : Ext w1 ((wd.setCell ⟨b8, 0, none⟩ (.slice (some ⟨g1, 0, none⟩) a.length c1)).setCell ⟨b9, 0, none⟩ (.slice (some ⟨g2, 0, none⟩) a2.length c2)) := ((show Ext w1 wd by (repeat (first | exact Ext.refl _ | assumption | apply Ext.alloc | apply Ext.drew | apply Ext.drewN | (refine Ext.trans ?_ (by assumption))))).setCell (by simpa using hb8) _).setCell (by simpa using hb9) _
    obtain ⟨z1, z2, z3⟩ := n8.cell
    obtain ⟨y1, y2, y3⟩ := n9.cell
    have hze : ((wd.setCell ⟨b8, 0, none⟩ (.slice (some ⟨g1, 0, none⟩) a.length c1)).setCell ⟨b9, 0, none⟩ (.slice (some ⟨g2, 0, none⟩) a2.length c2)).heap.size = wd.heap.size := by simp only [size_setCell]
    clear hu3 hu7 hu8 hu9 o1 o2 p1 p2 n8 n9 n9' hdist hC2 hW2 f1
    have hbne2 : ¬ b9 = b8 := fun e => hbne e.symm
    go_wp2_with fail
    clear z1 z2 z3 y1 y2 y3 hbne hbne2
    generalize ((wd.setCell ⟨b8, 0, none⟩ (.slice (some ⟨g1, 0, none⟩) a.length c1)).setCell ⟨b9, 0, none⟩ (.slice (some ⟨g2, 0, none⟩) a2.length c2)) = ws at hxs hze P1 P2 N8 N9 ⊢
    have HN := hide (show ∀ w', Ext ws w' → (w'.cell? ⟨b8, 0, none⟩ = some (.slice (some ⟨g1, 0, none⟩) a.length c1) ∧ b8 < w'.heap.size) ∧ (w'.cell? ⟨b9, 0, none⟩ = some (.slice (some ⟨g2, 0, none⟩) a2.length c2) ∧ b9 < w'.heap.size) from fun w' hx => ⟨⟨(N8.ext hx).cell.2.1, (N8.ext hx).cell.1⟩, ⟨(N9.ext hx).cell.2.1, (N9.ext hx).cell.1⟩⟩)
    have HP1 := hide P1
    have HP2 := hide P2
    clear N8 N9 P1 P2
    refine (RoomOk_any _ _ _ _ ((HP1.out.r (by omega)).ext (by (repeat (first | exact Ext.refl _ | assumption | apply Ext.alloc | apply Ext.drew | apply Ext.drewN | (refine Ext.trans ?_ (by assumption)))))) hla).mono ?_
    cases h1 : roomB a
    · have HV := hide (show cutOk l m p = false by rw [HV0.out, h1]; rfl)
      rintro e w4 ⟨rfl, hb4⟩
      have f4 := HB.out w4 (by (repeat (first | exact Ext.refl _ | assumption | apply Ext.alloc | apply Ext.drew | apply Ext.drewN | (refine Ext.trans ?_ (by assumption)))))
      go_wp2
      refine bodyPost_ret (v := .tuple #[.agg #[.slice none 0 0], .agg #[.slice none 0 0], .bool false]) (by simp [results, Try.results14, go_sem, *]) rfl ?_
      exact ⟨none, 0, none, 0, w.heap.size, w.heap.size, w.heap.size, w.heap.size, by unfold cutA cutB2; rw [HV.out]; rfl, by unfold cutA; rw [HV.out]; exact OwnS.nil, by unfold cutB2; rw [HV.out]; exact OwnS.nil, Nat.le_refl _, by simp only [size_setCell]; exact (show Ext w w4 by (repeat (first | exact Ext.refl _ | assumption | apply Ext.alloc | apply Ext.drew | apply Ext.drewN | (refine Ext.trans ?_ (by assumption))))).size, Nat.le_refl _, by simp only [size_setCell]; exact (show Ext w w4 by (repeat (first | exact Ext.refl _ | assumption | apply Ext.alloc | apply Ext.drew | apply Ext.drewN | (refine Ext.trans ?_ (by assumption))))).size, .inl (Nat.le_refl _), ((show Ext w w4 by (repeat (first | exact Ext.refl _ | assumption | apply Ext.alloc | apply Ext.drew | apply Ext.drewN | (refine Ext.trans ?_ (by assumption))))).setCell (by simp) _).setCell (by simp; try omega) _⟩
    · rintro e w4 ⟨rfl, hb4⟩
      have y4 := HN.out w4 (by (repeat (first | exact Ext.refl _ | assumption | apply Ext.alloc | apply Ext.drew | apply Ext.drewN | (refine Ext.trans ?_ (by assumption)))))
      go_wp2_with fail
      refine (RoomOk_any _ _ _ _ ((HP2.out.r (by omega)).ext (by (repeat (first | exact Ext.refl _ | assumption | apply Ext.alloc | apply Ext.drew | apply Ext.drewN | (refine Ext.trans ?_ (by assumption)))))) hla2).mono ?_
      cases h2 : roomB a2
      · have HV := hide (show cutOk l m p = false by rw [HV0.out, h1, h2]; rfl)
        rintro e w5 ⟨rfl, hb5⟩
        have f5 := HB.out w5 (by (repeat (first | exact Ext.refl _ | assumption | apply Ext.alloc | apply Ext.drew | apply Ext.drewN | (refine Ext.trans ?_ (by assumption)))))
        go_wp2
        refine bodyPost_ret (v := .tuple #[.agg #[.slice none 0 0], .agg #[.slice none 0 0], .bool false]) (by simp [results, Try.results14, go_sem, *]) rfl ?_
        exact ⟨none, 0, none, 0, w.heap.size, w.heap.size, w.heap.size, w.heap.size, by unfold cutA cutB2; rw [HV.out]; rfl, by unfold cutA; rw [HV.out]; exact OwnS.nil, by unfold cutB2; rw [HV.out]; exact OwnS.nil, Nat.le_refl _, by simp only [size_setCell]; exact (show Ext w w5 by (repeat (first | exact Ext.refl _ | assumption | apply Ext.alloc | apply Ext.drew | apply Ext.drewN | (refine Ext.trans ?_ (by assumption))))).size, Nat.le_refl _, by simp only [size_setCell]; exact (show Ext w w5 by (repeat (first | exact Ext.refl _ | assumption | apply Ext.alloc | apply Ext.drew | apply Ext.drewN | (refine Ext.trans ?_ (by assumption))))).size, .inl (Nat.le_refl _), ((show Ext w w5 by (repeat (first | exact Ext.refl _ | assumption | apply Ext.alloc | apply Ext.drew | apply Ext.drewN | (refine Ext.trans ?_ (by assumption))))).setCell (by simp) _).setCell (by simp; try omega) _⟩
      · have HV := hide (show cutOk l m p = true by rw [HV0.out, h1, h2]; rfl)
        rintro e w5 ⟨rfl, hb5⟩
        have f5 := HB.out w5 (by (repeat (first | exact Ext.refl _ | assumption | apply Ext.alloc | apply Ext.drew | apply Ext.drewN | (refine Ext.trans ?_ (by assumption)))))
        have y5 := HN.out w5 (by (repeat (first | exact Ext.refl _ | assumption | apply Ext.alloc | apply Ext.drew | apply Ext.drewN | (refine Ext.trans ?_ (by assumption)))))
        have n1 : ¬ w.heap.size + 1 = b8 := by omega
        have n2 : ¬ w.heap.size + 1 + 1 = b8 := by omega
        have n3 : ¬ w.heap.size + 1 = b9 := by omega
        have n4 : ¬ w.heap.size + 1 + 1 = b9 := by omega
        have n5 : ¬ b8 = w.heap.size + 1 := by omega
        have n6 : ¬ b8 = w.heap.size + 1 + 1 := by omega
        have n7 : ¬ b9 = w.heap.size + 1 := by omega
        have n8 : ¬ b9 = w.heap.size + 1 + 1 := by omega
        clear y4
        go_wp2
        go_region_held3 (fun w' => w'.cell? ⟨b8, 0, none⟩ = some (.slice (some ⟨g1, 0, none⟩) a.length c1) ∧ w'.cell? ⟨b9, 0, none⟩ = some (.slice (some ⟨g2, 0, none⟩) a2.length c2)) (simp [*, go_sem]) (fail)
        have HCA := hide (show cutA l m p = a by unfold cutA; rw [HV.out, HA.out]; rfl)
        have HCB := hide (show cutB2 l m p = a2 by unfold cutB2; rw [HV.out, HA2.out]; rfl)
        have s5 := (show Ext ws w5 by (repeat (first | exact Ext.refl _ | assumption | apply Ext.alloc | apply Ext.drew | apply Ext.drewN | (refine Ext.trans ?_ (by assumption))))).size
        have O1 := (HP1.out.ext (show Ext ws w5 by (repeat (first | exact Ext.refl _ | assumption | apply Ext.alloc | apply Ext.drew | apply Ext.drewN | (refine Ext.trans ?_ (by assumption)))))).set_below (p := ⟨w.heap.size + 1, 0, none⟩) (by show w.heap.size + 1 < _; omega) (.slice (some ⟨g1, 0, none⟩) a.length c1)
        have O1 := O1.set_below (p := ⟨w.heap.size + 1 + 1, 0, none⟩) (by show w.heap.size + 1 + 1 < _; omega) (.slice (some ⟨g2, 0, none⟩) a2.length c2)
        have O2 := (HP2.out.ext (show Ext ws w5 by (repeat (first | exact Ext.refl _ | assumption | apply Ext.alloc | apply Ext.drew | apply Ext.drewN | (refine Ext.trans ?_ (by assumption)))))).set_below (p := ⟨w.heap.size + 1, 0, none⟩) (by show w.heap.size + 1 < _; omega) (.slice (some ⟨g1, 0, none⟩) a.length c1)
        have O2 := O2.set_below (p := ⟨w.heap.size + 1 + 1, 0, none⟩) (by show w.heap.size + 1 + 1 < _; omega) (.slice (some ⟨g2, 0, none⟩) a2.length c2)
        have hxe : Ext w ((w5.setCell ⟨w.heap.size + 1, 0, none⟩ (.slice (some ⟨g1, 0, none⟩) a.length c1)).setCell ⟨w.heap.size + 1 + 1, 0, none⟩ (.slice (some ⟨g2, 0, none⟩) a2.length c2)) := ((show Ext w w5 by (repeat (first | exact Ext.refl _ | assumption | apply Ext.alloc | apply Ext.drew | apply Ext.drewN | (refine Ext.trans ?_ (by assumption))))).setCell (by simp) _).setCell (by simp; try omega) _
        have hze2 : ((w5.setCell ⟨w.heap.size + 1, 0, none⟩ (.slice (some ⟨g1, 0, none⟩) a.length c1)).setCell ⟨w.heap.size + 1 + 1, 0, none⟩ (.slice (some ⟨g2, 0, none⟩) a2.length c2)).heap.size = w5.heap.size := by simp only [size_setCell]
        go_wp2
        refine bodyPost_ret (v := .tuple #[.agg #[.slice (some ⟨g1, 0, none⟩) a.length c1], .agg #[.slice (some ⟨g2, 0, none⟩) a2.length c2], .bool true]) (by simp [results, Try.results14, go_sem, *]) rfl ?_
        rw [HV.out, HCA.out, HCB.out]
        exact ⟨_, c1, _, c2, g1, g1 + 1, g2, g2 + 1, rfl, O1.ext ((Ext.refl _).drew), O2.ext ((Ext.refl _).drew), by omega, Nat.le_trans (by omega) (Nat.le_of_eq hze2.symm), by omega, Nat.le_trans (by omega) (Nat.le_of_eq hze2.symm), by omega, hxe.drew⟩

end Go.Proofs.Ytjccilpjaaiicaa
