/- The walk of FnPlaces. -/
import Derived.Test.YtanagdlikoinaaaWAreas
import Derived.Test.YtanagdlikoinaaaDrawQ
import Derived.Test.YtanagdlikoinaaaApartP
import Derived.Test.YtanagdlikoinaaaConv
import Derived.Test.YtanagdlikoinaaaFto
namespace Go.Proofs.Ytanagdlikoinaaa
open Go.RowKit

theorem PlaceIn_at (A : Option Addr) (l : List (Int × Int)) (c N : Nat) (px py v : Int) (w : World) (hN : l.length = N) (hp : RPts w A l) (hn : N ≤ 1048576) (hv : placeInV l px py = v) :
    Calls Try.prog 21 #[.agg #[.slice A N c], .agg #[.int .i64 px, .int .i64 py]] w fun e w' => e = .returned (.int .i64 v) ∧ Ext w w' := by
  subst hN hv
  exact PlaceIn_any A l c px py w hp hn
theorem IsIn_at (A : Option Addr) (l : List (Int × Int)) (c N : Nat) (px py : Int) (v : Bool) (w : World) (hN : l.length = N) (hp : RPts w A l) (hn : N ≤ 1048576) (hv : isInV l px py = v) :
    Calls Try.prog 24 #[.agg #[.slice A N c], .agg #[.int .i64 px, .int .i64 py]] w fun e w' => e = .returned (.bool v) ∧ Ext w w' := by
  subst hN hv
  exact IsIn_any A l c px py w hp hn
theorem WallAt_at (A : Option Addr) (l : List (Int × Int)) (c N : Nat) (px py v : Int) (w : World) (hN : l.length = N) (hp : RPts w A l) (hn : N ≤ 1048576) (hv : wallAtV l px py = v) :
    Calls Try.prog 22 #[.agg #[.slice A N c], .agg #[.int .i64 px, .int .i64 py]] w fun e w' => e = .returned (.int .i64 v) ∧ Ext w w' := by
  subst hN hv
  exact WallAt_any A l c px py w hp hn
theorem CountIn_at (A : Option Addr) (l : List (Int × Int)) (c N : Nat) (B : Option Addr) (m : List (Int × Int)) (d M : Nat) (v : Int) (w : World) (hN : l.length = N) (hM : m.length = M) (hp : RPts w A l) (hq : RPts w B m) (hn : N ≤ 1048576) (hm : M ≤ 1048576) (hv : countInV l m = v) :
    Calls Try.prog 25 #[.agg #[.slice A N c], .slice B M d] w fun e w' => e = .returned (.int .i64 v) ∧ Ext w w' := by
  subst hN hM hv
  exact CountIn_any A l c B m d w hp hq hn hm
theorem AreApart_at (A : Option Addr) (l : List (Int × Int)) (c N : Nat) (v : Bool) (w : World) (hN : l.length = N) (hp : RPts w A l) (hn : N ≤ 1048576) (hv : apV l l = v) :
    Calls Try.prog 26 #[.agg #[.slice A N c], .agg #[.slice A N c]] w fun e w' => e = .returned (.bool v) ∧ Ext w w' := by
  subst hN hv
  exact AreApart_any A A l l c c w hp hp hn hn
theorem btoi_one (w : World) : Calls Try.prog 23 #[.bool true] w fun e w' => e = .returned (.int .i64 1) ∧ w = w' := by
  go_enter Try.func23, Try.ntmps23
  go_wp2
  go_ret
  exact ⟨rfl, rfl⟩
theorem btoi_zero (w : World) : Calls Try.prog 23 #[.bool false] w fun e w' => e = .returned (.int .i64 0) ∧ w = w' := by
  go_enter Try.func23, Try.ntmps23
  go_wp2
  go_ret
  exact ⟨rfl, rfl⟩
theorem wto_bd (l f : List (Int × Int)) : ∀ k, 0 ≤ Jor.wto l f k ∧ Jor.wto l f k ≤ (k : Int)
  | 0 => by simp [Jor.wto, sm]
  | k + 1 => by
    have ih := wto_bd l f k
    have e : Jor.wto l f (k + 1) = Jor.wto l f k + (if placeV l (gx f k) (gy f k) = 1 then 1 else 0) := rfl
    rw [e]
    split <;> omega
/-- what the statement asks of a drawn room and its floor -/
theorem places_plain {L : List (Int × Int)} (hD : Drawn L) : roomB L = true ∧ 3 ≤ (floorL L).length ∧ (floorL L).length ≤ 6561 ∧ Jor.wto L (floorL L) (floorL L).length = edgeV L ∧ (∀ x y, pok x y = true → isInV L x y = fto (floorL L) x y (floorL L).length) ∧ placeInV L 39 39 = 0 ∧ countInV L (floorL L) = (floorL L).length ∧ ((innerV L == 0) = false → apV L L = false) ∧ ∀ k, k < (floorL L).length → (placeInV L (gx (floorL L) k) (gy (floorL L) k) = 1 ∧ 0 ≤ wallAtV L (gx (floorL L) k) (gy (floorL L) k) ∧ Jor.wto L (floorL L) (k + 1) = Jor.wto L (floorL L) k + 1) ∨ (placeInV L (gx (floorL L) k) (gy (floorL L) k) = 2 ∧ ¬ 0 ≤ wallAtV L (gx (floorL L) k) (gy (floorL L) k) ∧ Jor.wto L (floorL L) (k + 1) = Jor.wto L (floorL L) k) := by
  obtain ⟨hr, ts, hc, h⟩ := Jor.drawn_trg hD
  refine ⟨hr, Jor.floor_three hr, floorL_le (roomB_fine hr).1 (by have := (roomB_fine hr).2; omega), Jor.wto_all hr, fun x y hq => ?_, Jor.far_out hD, Jor.cntTo_all hr _ (Nat.le_refl _) (fun i hi => Jor.floor_at hr hi), fun hI => ?_, fun k hk => ?_⟩
  · rw [Jor.isIn_floor hr h hq, fto_mem]
  · have h1 := (Jor.areas_plain hD).2.1
    rw [h1, beq_eq_false_iff_ne] at hI
    obtain ⟨p, hp, h2⟩ := Jor.inner_some hI
    have h3 : insB L (floorL L) = true := by
      unfold insB
      rw [List.any_eq_true]
      exact ⟨p, hp, beq_iff_eq.2 h2⟩
    unfold apV
    rw [h3]
    simp
  · obtain ⟨h1, h2⟩ := Jor.floor_at hr hk
    have h3 := Jor.wallAt_nn hr h1
    rw [decide_eq_decide] at h3
    rw [Jor.placeIn_at hr h1]
    have e : Jor.wto L (floorL L) (k + 1) = Jor.wto L (floorL L) k + (if placeV L (gx (floorL L) k) (gy (floorL L) k) = 1 then 1 else 0) := rfl
    rcases Jor.placeV_cases L (gx (floorL L) k) (gy (floorL L) k) with g | g | g
    · exact absurd g h2
    · rw [g] at h3 e ⊢
      exact .inl ⟨rfl, h3.2 rfl, by rw [e]; rfl⟩
    · rw [g] at h3 e ⊢
      refine .inr ⟨rfl, fun hh => absurd (h3.1 hh) (by decide), by rw [e]; simp⟩

/-! ## The round -/


set_option maxRecDepth 100000 in
set_option maxHeartbeats 6400000 in
theorem places_walk (B : Option Addr) (n c : Nat) (w : World) (hb : RB w B n) :
    Calls Try.prog 5 #[.slice B n c] w fun e w' => e = .returned (.bool true) ∧ Below w.heap.size w w' := by
  by_cases hbig : (1048576 : Int) < (n : Int)
  · go_enter Try.func5, Try.ntmps5
    go_wp2_with (go_at_call 6; refine (big_any _ _ _ _).mono ?_; rintro e w1 ⟨rfl, rfl⟩)
    go_ret
    exact ⟨rfl, Below.refl _ _⟩
  · have hn : n ≤ 1048576 := by omega
    go_enter Try.func5, Try.ntmps5
    go_wp2_with (go_at_call 6; refine (big_any _ _ _ _).mono ?_; rintro e w1 ⟨rfl, rfl⟩)
    refine (DrawPlace_any B n c w hb hn).mono ?_
    rintro e w1 ⟨L, A, c1, px, py, rfl, hcap, hD, hpp, own, x1⟩
    obtain ⟨hr, p1, p2, p3, p4, p5, p6, p7, p8⟩ := places_plain hD
    have hpk : pok px py = true := (pok_iff _ _).2 (by omega)
    have hN3 : 3 ≤ L.length := (roomB_fine hr).2
    have hN10 : L.length ≤ 10 := (roomB_fine hr).1.2
    have r1 : RPts w1 A L := own.r (Nat.le_refl _)
    have hFV : floorV L = floorL L := by unfold floorV; rw [if_pos hr]
    obtain ⟨N, hN⟩ : ∃ N, L.length = N := ⟨_, rfl⟩
    obtain ⟨F, hF⟩ : ∃ F, floorL L = F := ⟨_, rfl⟩
    rw [hF] at p1 p2 p3 p4 p6 p8 hFV
    obtain ⟨Q, hQ⟩ : ∃ Q, F.length = Q := ⟨_, rfl⟩
    obtain ⟨E, hE⟩ : ∃ E, edgeV L = E := ⟨_, rfl⟩
    obtain ⟨I, hI⟩ : ∃ I, innerV L = I := ⟨_, rfl⟩
    rw [hN] at hcap hN3 hN10 ⊢
    rw [hQ] at p1 p2 p3 p4 p6 p8
    rw [hE] at p3
    rw [hI] at p7
    have HLN := hide hN
    have HFV := hide hFV
    have HFQ := hide hQ
    have HE := hide hE
    have HI := hide hI
    have HP3 := hide p3
    have HP4 := hide (p4 px py hpk)
    have HP5 := hide p5
    have HP6 := hide p6
    have HP7 := hide p7
    have HP8 := hide p8
    have hn10 : N ≤ 1048576 := by omega
    clear hN hF hQ hE hI hFV hD hr own p3 p4 p5 p6 p7 p8 hpk
    have HB : Hid (∀ w', Ext ((w1.alloc (.cells #[.slice A N c1] 26)).alloc (.cells #[.int .i64 px, .int .i64 py] 38)) w' → w'.cell? ⟨w1.heap.size, 0, none⟩ = some (.slice A N c1) ∧ w1.heap.size < w'.heap.size ∧ w'.cell? ⟨w1.heap.size + 1, 0, none⟩ = some (.int .i64 px) ∧ w'.cell? ⟨w1.heap.size + 1, 1, none⟩ = some (.int .i64 py) ∧ w1.heap.size + 1 < w'.heap.size) := fun w' hx => by
      and_intros <;> (first | (have hz := hx.size; simp at hz; omega) | ((first | rw [hx.cells _ _ (by first | (simp; done) | (simp; omega))] | rw [hx.frozens _ _ (by first | (simp; done) | (simp; omega))]); (first | (simp [go_sem]; done) | (simp [go_sem, World.cell?_alloc_past]; done) | (simp [go_sem, World.frozen?]; done))))
    go_wp2_with fail
    refine (FloorPoints_at A L c1 N _ HLN.out (r1.ext (by (repeat (first | exact Ext.refl _ | assumption | apply Ext.alloc | apply Ext.drew | apply Ext.drewN | (refine Ext.trans ?_ (by assumption)))))) hn10).mono ?_
    rw [HFV.out]
    rintro e wa ⟨A2, c2, rfl, ox, xa⟩
    have fa := HB.out wa (by (repeat (first | exact Ext.refl _ | assumption | apply Ext.alloc | apply Ext.drew | apply Ext.drewN | (refine Ext.trans ?_ (by assumption)))))
    rw [HFQ.out]
    have rF : RPts wa A2 F := ox.r (Nat.le_refl _)
    clear ox
    obtain ⟨b3, hb3⟩ : ∃ b3, b3 = w1.heap.size := ⟨_, rfl⟩
    obtain ⟨b4, hb4⟩ : ∃ b4, b4 = w1.heap.size + 1 := ⟨_, rfl⟩
    have HBQ := hide (show ∀ w', Ext wa w' → (w'.cell? ⟨b3, 0, none⟩ = some (.slice A N c1) ∧ b3 < w'.heap.size) ∧ w'.cell? ⟨b4, 0, none⟩ = some (.int .i64 px) ∧ w'.cell? ⟨b4, 1, none⟩ = some (.int .i64 py) ∧ b4 < w'.heap.size from fun w' hx => by
      have h := HB.out w' (xa.trans hx)
      rw [hb3, hb4]
      exact ⟨⟨h.1, h.2.1⟩, h.2.2.1, h.2.2.2.1, h.2.2.2.2⟩)
    have HR := hide (show ∀ w', Ext wa w' → RPts w' A L from fun w' hx => r1.ext (Ext.trans (show Ext w1 wa by (repeat (first | exact Ext.refl _ | assumption | apply Ext.alloc | apply Ext.drew | apply Ext.drewN | (refine Ext.trans ?_ (by assumption))))) hx))
    have HX0 := hide (show Ext w wa by (repeat (first | exact Ext.refl _ | assumption | apply Ext.alloc | apply Ext.drew | apply Ext.drewN | (refine Ext.trans ?_ (by assumption)))))
    have HRF := hide rF
    have hwt := wto_bd L F
    have HWT := hide hwt
    rw [← hb4, ← hb3]
    clear HB fa xa r1 hb3 hb4 x1 rF hwt hb
    have HB := HBQ
    clear HBQ
    go_wp2
    go_loopw [6, 7, 8] (fun wv fv kv wr => ∃ (k : Nat) (f : Bool), k ≤ Q ∧ kv = .int .i64 (k : Int) ∧ wv = .int .i64 (Jor.wto L F k) ∧ fv = .bool f ∧ fto F px py k = f ∧ Ext wa wr) (fun _ _ kv _ => Q - (intOf kv).toNat)
    case atStart => exact ⟨0, false, Nat.zero_le _, rfl, rfl, rfl, rfl, Ext.refl _⟩
    case round =>
      obtain ⟨k, f, hk, rfl, rfl, rfl, hf, hbl⟩ := hrel
      obtain ⟨wq, rfl⟩ : ∃ wq : World, wq = wr := ⟨_, rfl⟩
      have fq := HB.out wq hbl
      by_cases hkl : k < Q
      · have q1 : (k : Int) < (Q : Int) := by omega
        have HFK := hide hf
        have hpF : RPts wq A2 F := HRF.out.ext hbl
        obtain ⟨gA, gO, hgA⟩ := hpF.some_ (by rw [HFQ.out]; omega)
        subst hgA
        have hcl := fun w' (hx : Ext wq w') => (hpF.ext hx).cell (show k < F.length by rw [HFQ.out]; exact hkl)
        obtain ⟨X, hX⟩ : ∃ X, gx F k = X := ⟨_, rfl⟩
        obtain ⟨Y, hY⟩ : ∃ Y, gy F k = Y := ⟨_, rfl⟩
        have hp8 := HP8.out k hkl
        rw [hX, hY] at hp8
        have HXY := hide (And.intro hX hY)
        have HCX := hide (show ∀ w', Ext wq w' → (w'.cell? ⟨gA, gO + k * 2, none⟩ = some (.int .i64 X) ∧ w'.cell? ⟨gA, gO + k * 2 + 1, none⟩ = some (.int .i64 Y) ∧ gA < w'.heap.size) ∧ w'.cell? ⟨b4, 0, none⟩ = some (.int .i64 px) ∧ w'.cell? ⟨b4, 1, none⟩ = some (.int .i64 py) ∧ b4 < w'.heap.size from fun w' hx => by
          have h := hcl w' hx
          rw [hX, hY] at h
          exact ⟨⟨h.2.1, h.2.2, h.1⟩, (HB.out w' (hbl.trans hx)).2⟩)
        have HC3 := hide (show ∀ w', Ext wq w' → w'.cell? ⟨b3, 0, none⟩ = some (.slice A N c1) ∧ b3 < w'.heap.size from fun w' hx => (HB.out w' (hbl.trans hx)).1)
        have HRQ := hide (show ∀ w', Ext wq w' → RPts w' A L from fun w' hx => HR.out w' (hbl.trans hx))
        have hw0 := HWT.out k
        obtain ⟨wt, hwt⟩ : ∃ wt, Jor.wto L F k = wt := ⟨_, rfl⟩
        rw [hwt] at hp8 hw0 ⊢
        have hq6 : (Q : Int) ≤ 6561 := by omega
        clear hX hY hcl hpF HWT HB fq HR hwt HP8 HP7 HP6 HP5 HP4 HP3 HI HE HX0 HRF HFV hf
        rcases hp8 with ⟨g1, g2, g3⟩ | ⟨g1, g2, g3⟩
        · have HG1 := hide g1
          have HG3 := hide g3
          obtain ⟨wv, hwv⟩ : ∃ wv, wallAtV L X Y = wv := ⟨_, rfl⟩
          rw [hwv] at g2
          have HG2 := hide hwv
          clear g1 g3 hwv
          have z1 : IntKind.i64.wrap (wt + 1) = wt + 1 := wrap_in _ (by omega) (by omega)
          go_wp2
          refine wp_flow (by kernel_rfl) (by kernel_rfl) (fun u => ⟨#[_, _, _, _, _, _, _, _, _, u 6, _, _, _, _, _, _, _, _, _, _, _, _, _, _, _, _, u 0, u 1, u 2, u 3, u 4, u 5, _, _, _, _, _, _, _, _, _, _, _, _, _, _, _, _, _, _, _, _, _, _, _, _, _, _, _, _, _, _, _, _, _, _, _, _, _, _, _, _, _, _, _, _, _, _, _, _, _, _, _, _, _, _, _, _, _, _, _, _, _, _, _, _, _, _, _, _, _, _], _⟩) (fun i => List.getD [_, _, _, _, _, _, _] i undef) [is ?v1_0, is ?v1_1, is ?v1_2, is ?v1_3, is ?v1_4, is ?v1_5, is ?v1_6] (fun w' => (w'.cell? ⟨gA, gO + k * 2, none⟩ = some (.int .i64 X) ∧ w'.cell? ⟨gA, gO + k * 2 + 1, none⟩ = some (.int .i64 Y) ∧ gA < w'.heap.size) ∧ w'.cell? ⟨b3, 0, none⟩ = some (.slice A N c1) ∧ b3 < w'.heap.size) _ rfl ?hC1 ?hs1 ?hV1 ?fin1
          case hC1 => exact fun w' hx => ⟨(HCX.out w' hx).1, HC3.out w' hx⟩
          case hs1 =>
            repeat' (first
              | exact FSteps.nil
              | refine FSteps.cons ?_ ?_
              | (refine FStep.off_ _ _ _ rfl rfl ?_ (fun _ => rfl) ?_; (focus (intro u w hd; simp [vOf, is, Region.binds] at hd; simp [hd])); (intro w'; exact rfl); done)
              | ((first
                  | refine FStep.plain rfl ?_
                  | (refine FStep.on_ _ _ _ rfl rfl ?_ ?_; (focus (intro u w hd; simp [vOf, is, Region.binds] at hd; simp [hd]))))
                 intro u w hW hC hd K hK
                 (try simp [vOf, is, Region.binds] at hd)
                 simp only [upd, Nat.reduceEqDiff, if_true, if_false] at hK
                 (try simp only [hd] at hK)
                 go_simp
                 (first
                   | (refine hK _ _ ?_ ?_; (first | exact rfl); (repeat (first | exact Ext.refl _ | assumption | apply Ext.alloc | apply Ext.drew | apply Ext.drewN | (refine Ext.trans ?_ (by assumption)))))
                   | (go_at_call 21; refine (PlaceIn_at A L c1 N X Y _ _ HLN.out (HRQ.out _ hW) hn10 HG1.out).mono ?_; rintro e w1 ⟨rfl, hb⟩; (try go_simp); refine hK _ _ ?_ ?_; (first | exact rfl); (repeat (first | exact Ext.refl _ | assumption | apply Ext.alloc | apply Ext.drew | apply Ext.drewN | (refine Ext.trans ?_ (by assumption))))))))
          case hV1 => (simp only [List.forall_mem_cons]; simp [stable_is])
          case fin1 =>
            intro u w2 hW2 hC2 hd
            simp only [AllV, is] at hd
            simp only [hd]
            clear hd
            obtain ⟨wb, rfl⟩ : ∃ wb : World, wb = w2 := ⟨_, rfl⟩
            have hx10 := hW2
            clear hC2 hW2
            go_wp2
            refine wp_flow (by kernel_rfl) (by kernel_rfl) (fun u => ⟨#[_, _, _, _, _, _, _, _, _, _, _, _, _, _, _, _, _, _, _, _, _, _, _, _, _, _, _, _, _, _, _, _, u 0, u 1, u 2, u 3, u 4, u 5, u 6, u 7, u 8, u 9, u 10, u 11, u 12, u 13, _, _, _, _, _, _, _, _, _, _, _, _, _, _, _, _, _, _, _, _, _, _, _, _, _, _, _, _, _, _, _, _, _, _, _, _, _, _, _, _, _, _, _, _, _, _, _, _, _, _, _, _, _, _, _, _], _⟩) (fun i => List.getD [_, _, _, _, _, _, _, _, _, _, _, _, _, _] i undef) [is ?v2_0, is ?v2_1, is ?v2_2, is ?v2_3, is ?v2_4, is ?v2_5, is ?v2_6, is ?v2_7, is ?v2_8, is ?v2_9, is ?v2_10, is ?v2_11, is ?v2_12, is ?v2_13] (fun w' => (w'.cell? ⟨gA, gO + k * 2, none⟩ = some (.int .i64 X) ∧ w'.cell? ⟨gA, gO + k * 2 + 1, none⟩ = some (.int .i64 Y) ∧ gA < w'.heap.size) ∧ w'.cell? ⟨b3, 0, none⟩ = some (.slice A N c1) ∧ b3 < w'.heap.size) _ rfl ?hC2 ?hs2 ?hV2 ?fin2
            case hC2 => exact fun w' hx => ⟨(HCX.out w' (hx10.trans hx)).1, HC3.out w' (hx10.trans hx)⟩
            case hs2 =>
              repeat' (first
                | exact FSteps.nil
                | refine FSteps.cons ?_ ?_
                | (refine FStep.off_ _ _ _ rfl rfl ?_ (fun _ => rfl) ?_; (focus (intro u w hd; simp [vOf, is, Region.binds] at hd; simp [hd])); (intro w'; exact rfl); done)
                | ((first
                    | refine FStep.plain rfl ?_
                    | (refine FStep.on_ _ _ _ rfl rfl ?_ ?_; (focus (intro u w hd; simp [vOf, is, Region.binds] at hd; simp [hd]))))
                   intro u w hW hC hd K hK
                   (try simp [vOf, is, Region.binds] at hd)
                   simp only [upd, Nat.reduceEqDiff, if_true, if_false] at hK
                   (try simp only [hd] at hK)
                   go_simp
                   (first
                     | (refine hK _ _ ?_ ?_; (first | exact rfl); (repeat (first | exact Ext.refl _ | assumption | apply Ext.alloc | apply Ext.drew | apply Ext.drewN | (refine Ext.trans ?_ (by assumption)))))
                     | (go_at_call 22; refine (WallAt_at A L c1 N X Y _ _ HLN.out (HRQ.out _ (hx10.trans hW)) hn10 HG2.out).mono ?_; rintro e w1 ⟨rfl, hb⟩; (try go_simp); refine hK _ _ ?_ ?_; (first | exact rfl); (repeat (first | exact Ext.refl _ | assumption | apply Ext.alloc | apply Ext.drew | apply Ext.drewN | (refine Ext.trans ?_ (by assumption))))))))
            case hV2 => (simp only [List.forall_mem_cons]; simp [stable_is])
            case fin2 =>
              intro u w2 hW2 hC2 hd
              simp only [AllV, is] at hd
              simp only [hd]
              clear hd
              obtain ⟨wc, rfl⟩ : ∃ wc : World, wc = w2 := ⟨_, rfl⟩
              have hx14 := hx10.trans hW2
              clear hC2 hW2
              cases f
              · cases hzx : (X == px)
                · have HZ := hide hzx
                  go_wp2_with (go_at_call 23; refine (btoi_one _).mono ?_; rintro e w3 ⟨rfl, rfl⟩)
                  refine wp_flow_tail 9 (by kernel_rfl) (by kernel_rfl) (by kernel_rfl) (by kernel_rfl) (fun u => ⟨#[_, _, _, _, _, _, _, _, _, _, _, _, _, _, _, _, _, _, _, _, _, _, _, _, _, _, _, _, _, _, _, _, _, _, _, _, _, _, _, _, _, _, _, _, _, _, _, _, _, _, _, u 0, u 1, u 2, u 3, u 4, u 5, u 6, u 7, u 8, _, _, _, _, _, _, _, _, _, _, _, _, _, _, _, _, _, _, _, _, _, _, _, _, _, _, _, _, _, _, _, _, _, _, _, _, _, _, _, _, _, _], _⟩) (fun i => List.getD [_, _, _, _, _, _, _, _, _] i undef) [is ?v3_0, is ?v3_1, is ?v3_2, is ?v3_3, is ?v3_4, is ?v3_5, is ?v3_6, is ?v3_7, is ?v3_8] (fun w' => (w'.cell? ⟨gA, gO + k * 2, none⟩ = some (.int .i64 X) ∧ w'.cell? ⟨gA, gO + k * 2 + 1, none⟩ = some (.int .i64 Y) ∧ gA < w'.heap.size) ∧ w'.cell? ⟨b4, 0, none⟩ = some (.int .i64 px) ∧ w'.cell? ⟨b4, 1, none⟩ = some (.int .i64 py) ∧ b4 < w'.heap.size) _ rfl ?hC3 ?hs3 ?hV3 ?fin3
                  case hC3 => exact fun w' hx => HCX.out w' (hx14.trans hx)
                  case hs3 =>
                    repeat' (first
                      | exact FSteps.nil
                      | refine FSteps.cons ?_ ?_
                      | (refine FStep.off_ _ _ _ rfl rfl ?_ (fun _ => rfl) ?_; (focus (intro u w hd; simp [vOf, is, Region.binds] at hd; simp [hd])); (intro w'; exact rfl); done)
                      | ((first
                          | refine FStep.plain rfl ?_
                          | (refine FStep.on_ _ _ _ rfl rfl ?_ ?_; (focus (intro u w hd; simp [vOf, is, Region.binds] at hd; simp [hd]))))
                         intro u w hW hC hd K hK
                         (try simp [vOf, is, Region.binds] at hd)
                         simp only [upd, Nat.reduceEqDiff, if_true, if_false] at hK
                         (try simp only [hd] at hK)
                         go_simp
                         (first
                           | (refine hK _ _ ?_ ?_; (first | exact rfl); (repeat (first | exact Ext.refl _ | assumption | apply Ext.alloc | apply Ext.drew | apply Ext.drewN | (refine Ext.trans ?_ (by assumption))))))))
                  case hV3 => (simp only [List.forall_mem_cons]; simp [stable_is])
                  case fin3 =>
                    intro u w2 hW2 hC2 hd
                    simp only [AllV, is] at hd
                    simp only [List.drop_succ_cons, List.drop_zero]
                    simp only [hd]
                    clear hd
                    clear hC2
                    go_wp2
                    go_roundw
                    case rel => exact ⟨k + 1, false, by omega, by go_num, by rw [HG3.out], rfl, by rw [fto_succ, HFK.out, HXY.out.1, HXY.out.2, HZ.out]; rfl, hbl.trans (hx14.trans hW2)⟩
                    case measure => simp [intOf]; omega
                · cases hzy : (Y == py)
                  · have HZ := hide (And.intro hzx hzy)
                    go_wp2_with (go_at_call 23; refine (btoi_one _).mono ?_; rintro e w3 ⟨rfl, rfl⟩)
                    refine wp_flow_tail 9 (by kernel_rfl) (by kernel_rfl) (by kernel_rfl) (by kernel_rfl) (fun u => ⟨#[_, _, _, _, _, _, _, _, _, _, _, _, _, _, _, _, _, _, _, _, _, _, _, _, _, _, _, _, _, _, _, _, _, _, _, _, _, _, _, _, _, _, _, _, _, _, _, _, _, _, _, u 0, u 1, u 2, u 3, u 4, u 5, u 6, u 7, u 8, _, _, _, _, _, _, _, _, _, _, _, _, _, _, _, _, _, _, _, _, _, _, _, _, _, _, _, _, _, _, _, _, _, _, _, _, _, _, _, _, _, _], _⟩) (fun i => List.getD [_, _, _, _, _, _, _, _, _] i undef) [is ?v4_0, is ?v4_1, is ?v4_2, is ?v4_3, is ?v4_4, is ?v4_5, is ?v4_6, is ?v4_7, is ?v4_8] (fun w' => (w'.cell? ⟨gA, gO + k * 2, none⟩ = some (.int .i64 X) ∧ w'.cell? ⟨gA, gO + k * 2 + 1, none⟩ = some (.int .i64 Y) ∧ gA < w'.heap.size) ∧ w'.cell? ⟨b4, 0, none⟩ = some (.int .i64 px) ∧ w'.cell? ⟨b4, 1, none⟩ = some (.int .i64 py) ∧ b4 < w'.heap.size) _ rfl ?hC4 ?hs4 ?hV4 ?fin4
                    case hC4 => exact fun w' hx => HCX.out w' (hx14.trans hx)
                    case hs4 =>
                      repeat' (first
                        | exact FSteps.nil
                        | refine FSteps.cons ?_ ?_
                        | (refine FStep.off_ _ _ _ rfl rfl ?_ (fun _ => rfl) ?_; (focus (intro u w hd; simp [vOf, is, Region.binds] at hd; simp [hd])); (intro w'; exact rfl); done)
                        | ((first
                            | refine FStep.plain rfl ?_
                            | (refine FStep.on_ _ _ _ rfl rfl ?_ ?_; (focus (intro u w hd; simp [vOf, is, Region.binds] at hd; simp [hd]))))
                           intro u w hW hC hd K hK
                           (try simp [vOf, is, Region.binds] at hd)
                           simp only [upd, Nat.reduceEqDiff, if_true, if_false] at hK
                           (try simp only [hd] at hK)
                           go_simp
                           (first
                             | (refine hK _ _ ?_ ?_; (first | exact rfl); (repeat (first | exact Ext.refl _ | assumption | apply Ext.alloc | apply Ext.drew | apply Ext.drewN | (refine Ext.trans ?_ (by assumption))))))))
                    case hV4 => (simp only [List.forall_mem_cons]; simp [stable_is])
                    case fin4 =>
                      intro u w2 hW2 hC2 hd
                      simp only [AllV, is] at hd
                      simp only [List.drop_succ_cons, List.drop_zero]
                      simp only [hd]
                      clear hd
                      clear hC2
                      go_wp2
                      go_roundw
                      case rel => exact ⟨k + 1, false, by omega, by go_num, by rw [HG3.out], rfl, by rw [fto_succ, HFK.out, HXY.out.1, HXY.out.2, HZ.out.1, HZ.out.2]; rfl, hbl.trans (hx14.trans hW2)⟩
                      case measure => simp [intOf]; omega
                  · have HZ := hide (And.intro hzx hzy)
                    go_wp2_with (go_at_call 23; refine (btoi_one _).mono ?_; rintro e w3 ⟨rfl, rfl⟩)
                    refine wp_flow_tail 9 (by kernel_rfl) (by kernel_rfl) (by kernel_rfl) (by kernel_rfl) (fun u => ⟨#[_, _, _, _, _, _, _, _, _, _, _, _, _, _, _, _, _, _, _, _, _, _, _, _, _, _, _, _, _, _, _, _, _, _, _, _, _, _, _, _, _, _, _, _, _, _, _, _, _, _, _, u 0, u 1, u 2, u 3, u 4, u 5, u 6, u 7, u 8, _, _, _, _, _, _, _, _, _, _, _, _, _, _, _, _, _, _, _, _, _, _, _, _, _, _, _, _, _, _, _, _, _, _, _, _, _, _, _, _, _, _], _⟩) (fun i => List.getD [_, _, _, _, _, _, _, _, _] i undef) [is ?v5_0, is ?v5_1, is ?v5_2, is ?v5_3, is ?v5_4, is ?v5_5, is ?v5_6, is ?v5_7, is ?v5_8] (fun w' => (w'.cell? ⟨gA, gO + k * 2, none⟩ = some (.int .i64 X) ∧ w'.cell? ⟨gA, gO + k * 2 + 1, none⟩ = some (.int .i64 Y) ∧ gA < w'.heap.size) ∧ w'.cell? ⟨b4, 0, none⟩ = some (.int .i64 px) ∧ w'.cell? ⟨b4, 1, none⟩ = some (.int .i64 py) ∧ b4 < w'.heap.size) _ rfl ?hC5 ?hs5 ?hV5 ?fin5
                    case hC5 => exact fun w' hx => HCX.out w' (hx14.trans hx)
                    case hs5 =>
                      repeat' (first
                        | exact FSteps.nil
                        | refine FSteps.cons ?_ ?_
                        | (refine FStep.off_ _ _ _ rfl rfl ?_ (fun _ => rfl) ?_; (focus (intro u w hd; simp [vOf, is, Region.binds] at hd; simp [hd])); (intro w'; exact rfl); done)
                        | ((first
                            | refine FStep.plain rfl ?_
                            | (refine FStep.on_ _ _ _ rfl rfl ?_ ?_; (focus (intro u w hd; simp [vOf, is, Region.binds] at hd; simp [hd]))))
                           intro u w hW hC hd K hK
                           (try simp [vOf, is, Region.binds] at hd)
                           simp only [upd, Nat.reduceEqDiff, if_true, if_false] at hK
                           (try simp only [hd] at hK)
                           go_simp
                           (first
                             | (refine hK _ _ ?_ ?_; (first | exact rfl); (repeat (first | exact Ext.refl _ | assumption | apply Ext.alloc | apply Ext.drew | apply Ext.drewN | (refine Ext.trans ?_ (by assumption))))))))
                    case hV5 => (simp only [List.forall_mem_cons]; simp [stable_is])
                    case fin5 =>
                      intro u w2 hW2 hC2 hd
                      simp only [AllV, is] at hd
                      simp only [List.drop_succ_cons, List.drop_zero]
                      simp only [hd]
                      clear hd
                      clear hC2
                      go_wp2
                      go_roundw
                      case rel => exact ⟨k + 1, true, by omega, by go_num, by rw [HG3.out], rfl, by rw [fto_succ, HFK.out, HXY.out.1, HXY.out.2, HZ.out.1, HZ.out.2]; rfl, hbl.trans (hx14.trans hW2)⟩
                      case measure => simp [intOf]; omega
              · go_wp2_with (go_at_call 23; refine (btoi_one _).mono ?_; rintro e w3 ⟨rfl, rfl⟩)
                refine wp_flow_tail 9 (by kernel_rfl) (by kernel_rfl) (by kernel_rfl) (by kernel_rfl) (fun u => ⟨#[_, _, _, _, _, _, _, _, _, _, _, _, _, _, _, _, _, _, _, _, _, _, _, _, _, _, _, _, _, _, _, _, _, _, _, _, _, _, _, _, _, _, _, _, _, _, _, _, _, _, _, u 0, u 1, u 2, u 3, u 4, u 5, u 6, u 7, u 8, _, _, _, _, _, _, _, _, _, _, _, _, _, _, _, _, _, _, _, _, _, _, _, _, _, _, _, _, _, _, _, _, _, _, _, _, _, _, _, _, _, _], _⟩) (fun i => List.getD [_, _, _, _, _, _, _, _, _] i undef) [is ?v6_0, is ?v6_1, is ?v6_2, is ?v6_3, is ?v6_4, is ?v6_5, is ?v6_6, is ?v6_7, is ?v6_8] (fun w' => (w'.cell? ⟨gA, gO + k * 2, none⟩ = some (.int .i64 X) ∧ w'.cell? ⟨gA, gO + k * 2 + 1, none⟩ = some (.int .i64 Y) ∧ gA < w'.heap.size) ∧ w'.cell? ⟨b4, 0, none⟩ = some (.int .i64 px) ∧ w'.cell? ⟨b4, 1, none⟩ = some (.int .i64 py) ∧ b4 < w'.heap.size) _ rfl ?hC6 ?hs6 ?hV6 ?fin6
                case hC6 => exact fun w' hx => HCX.out w' (hx14.trans hx)
                case hs6 =>
                  repeat' (first
                    | exact FSteps.nil
                    | refine FSteps.cons ?_ ?_
                    | (refine FStep.off_ _ _ _ rfl rfl ?_ (fun _ => rfl) ?_; (focus (intro u w hd; simp [vOf, is, Region.binds] at hd; simp [hd])); (intro w'; exact rfl); done)
                    | ((first
                        | refine FStep.plain rfl ?_
                        | (refine FStep.on_ _ _ _ rfl rfl ?_ ?_; (focus (intro u w hd; simp [vOf, is, Region.binds] at hd; simp [hd]))))
                       intro u w hW hC hd K hK
                       (try simp [vOf, is, Region.binds] at hd)
                       simp only [upd, Nat.reduceEqDiff, if_true, if_false] at hK
                       (try simp only [hd] at hK)
                       go_simp
                       (first
                         | (refine hK _ _ ?_ ?_; (first | exact rfl); (repeat (first | exact Ext.refl _ | assumption | apply Ext.alloc | apply Ext.drew | apply Ext.drewN | (refine Ext.trans ?_ (by assumption))))))))
                case hV6 => (simp only [List.forall_mem_cons]; simp [stable_is])
                case fin6 =>
                  intro u w2 hW2 hC2 hd
                  simp only [AllV, is] at hd
                  simp only [List.drop_succ_cons, List.drop_zero]
                  simp only [hd]
                  clear hd
                  clear hC2
                  go_wp2
                  go_roundw
                  case rel => exact ⟨k + 1, true, by omega, by go_num, by rw [HG3.out], rfl, by rw [fto_succ, HFK.out]; rfl, hbl.trans (hx14.trans hW2)⟩
                  case measure => simp [intOf]; omega
        · have HG1 := hide g1
          have HG3 := hide g3
          obtain ⟨wv, hwv⟩ : ∃ wv, wallAtV L X Y = wv := ⟨_, rfl⟩
          rw [hwv] at g2
          have HG2 := hide hwv
          clear g1 g3 hwv
          have z2 : IntKind.i64.wrap wt = wt := wrap_in _ (by omega) (by omega)
          have z1 : IntKind.i64.wrap (wt + 0) = wt := by rw [Int.add_zero]; exact z2
          go_wp2
          refine wp_flow (by kernel_rfl) (by kernel_rfl) (fun u => ⟨#[_, _, _, _, _, _, _, _, _, u 6, _, _, _, _, _, _, _, _, _, _, _, _, _, _, _, _, u 0, u 1, u 2, u 3, u 4, u 5, _, _, _, _, _, _, _, _, _, _, _, _, _, _, _, _, _, _, _, _, _, _, _, _, _, _, _, _, _, _, _, _, _, _, _, _, _, _, _, _, _, _, _, _, _, _, _, _, _, _, _, _, _, _, _, _, _, _, _, _, _, _, _, _, _, _, _, _, _, _], _⟩) (fun i => List.getD [_, _, _, _, _, _, _] i undef) [is ?v7_0, is ?v7_1, is ?v7_2, is ?v7_3, is ?v7_4, is ?v7_5, is ?v7_6] (fun w' => (w'.cell? ⟨gA, gO + k * 2, none⟩ = some (.int .i64 X) ∧ w'.cell? ⟨gA, gO + k * 2 + 1, none⟩ = some (.int .i64 Y) ∧ gA < w'.heap.size) ∧ w'.cell? ⟨b3, 0, none⟩ = some (.slice A N c1) ∧ b3 < w'.heap.size) _ rfl ?hC7 ?hs7 ?hV7 ?fin7
          case hC7 => exact fun w' hx => ⟨(HCX.out w' hx).1, HC3.out w' hx⟩
          case hs7 =>
            repeat' (first
              | exact FSteps.nil
              | refine FSteps.cons ?_ ?_
              | (refine FStep.off_ _ _ _ rfl rfl ?_ (fun _ => rfl) ?_; (focus (intro u w hd; simp [vOf, is, Region.binds] at hd; simp [hd])); (intro w'; exact rfl); done)
              | ((first
                  | refine FStep.plain rfl ?_
                  | (refine FStep.on_ _ _ _ rfl rfl ?_ ?_; (focus (intro u w hd; simp [vOf, is, Region.binds] at hd; simp [hd]))))
                 intro u w hW hC hd K hK
                 (try simp [vOf, is, Region.binds] at hd)
                 simp only [upd, Nat.reduceEqDiff, if_true, if_false] at hK
                 (try simp only [hd] at hK)
                 go_simp
                 (first
                   | (refine hK _ _ ?_ ?_; (first | exact rfl); (repeat (first | exact Ext.refl _ | assumption | apply Ext.alloc | apply Ext.drew | apply Ext.drewN | (refine Ext.trans ?_ (by assumption)))))
                   | (go_at_call 21; refine (PlaceIn_at A L c1 N X Y _ _ HLN.out (HRQ.out _ hW) hn10 HG1.out).mono ?_; rintro e w1 ⟨rfl, hb⟩; (try go_simp); refine hK _ _ ?_ ?_; (first | exact rfl); (repeat (first | exact Ext.refl _ | assumption | apply Ext.alloc | apply Ext.drew | apply Ext.drewN | (refine Ext.trans ?_ (by assumption))))))))
          case hV7 => (simp only [List.forall_mem_cons]; simp [stable_is])
          case fin7 =>
            intro u w2 hW2 hC2 hd
            simp only [AllV, is] at hd
            simp only [hd]
            clear hd
            obtain ⟨wb, rfl⟩ : ∃ wb : World, wb = w2 := ⟨_, rfl⟩
            have hx10 := hW2
            clear hC2 hW2
            go_wp2
            refine wp_flow (by kernel_rfl) (by kernel_rfl) (fun u => ⟨#[_, _, _, _, _, _, _, _, _, _, _, _, _, _, _, _, _, _, _, _, _, _, _, _, _, _, _, _, _, _, _, _, u 0, u 1, u 2, u 3, u 4, u 5, u 6, u 7, u 8, u 9, u 10, u 11, u 12, u 13, _, _, _, _, _, _, _, _, _, _, _, _, _, _, _, _, _, _, _, _, _, _, _, _, _, _, _, _, _, _, _, _, _, _, _, _, _, _, _, _, _, _, _, _, _, _, _, _, _, _, _, _, _, _, _, _], _⟩) (fun i => List.getD [_, _, _, _, _, _, _, _, _, _, _, _, _, _] i undef) [is ?v8_0, is ?v8_1, is ?v8_2, is ?v8_3, is ?v8_4, is ?v8_5, is ?v8_6, is ?v8_7, is ?v8_8, is ?v8_9, is ?v8_10, is ?v8_11, is ?v8_12, is ?v8_13] (fun w' => (w'.cell? ⟨gA, gO + k * 2, none⟩ = some (.int .i64 X) ∧ w'.cell? ⟨gA, gO + k * 2 + 1, none⟩ = some (.int .i64 Y) ∧ gA < w'.heap.size) ∧ w'.cell? ⟨b3, 0, none⟩ = some (.slice A N c1) ∧ b3 < w'.heap.size) _ rfl ?hC8 ?hs8 ?hV8 ?fin8
            case hC8 => exact fun w' hx => ⟨(HCX.out w' (hx10.trans hx)).1, HC3.out w' (hx10.trans hx)⟩
            case hs8 =>
              repeat' (first
                | exact FSteps.nil
                | refine FSteps.cons ?_ ?_
                | (refine FStep.off_ _ _ _ rfl rfl ?_ (fun _ => rfl) ?_; (focus (intro u w hd; simp [vOf, is, Region.binds] at hd; simp [hd])); (intro w'; exact rfl); done)
                | ((first
                    | refine FStep.plain rfl ?_
                    | (refine FStep.on_ _ _ _ rfl rfl ?_ ?_; (focus (intro u w hd; simp [vOf, is, Region.binds] at hd; simp [hd]))))
                   intro u w hW hC hd K hK
                   (try simp [vOf, is, Region.binds] at hd)
                   simp only [upd, Nat.reduceEqDiff, if_true, if_false] at hK
                   (try simp only [hd] at hK)
                   go_simp
                   (first
                     | (refine hK _ _ ?_ ?_; (first | exact rfl); (repeat (first | exact Ext.refl _ | assumption | apply Ext.alloc | apply Ext.drew | apply Ext.drewN | (refine Ext.trans ?_ (by assumption)))))
                     | (go_at_call 22; refine (WallAt_at A L c1 N X Y _ _ HLN.out (HRQ.out _ (hx10.trans hW)) hn10 HG2.out).mono ?_; rintro e w1 ⟨rfl, hb⟩; (try go_simp); refine hK _ _ ?_ ?_; (first | exact rfl); (repeat (first | exact Ext.refl _ | assumption | apply Ext.alloc | apply Ext.drew | apply Ext.drewN | (refine Ext.trans ?_ (by assumption))))))))
            case hV8 => (simp only [List.forall_mem_cons]; simp [stable_is])
            case fin8 =>
              intro u w2 hW2 hC2 hd
              simp only [AllV, is] at hd
              simp only [hd]
              clear hd
              obtain ⟨wc, rfl⟩ : ∃ wc : World, wc = w2 := ⟨_, rfl⟩
              have hx14 := hx10.trans hW2
              clear hC2 hW2
              cases f
              · cases hzx : (X == px)
                · have HZ := hide hzx
                  go_wp2_with (go_at_call 23; refine (btoi_zero _).mono ?_; rintro e w3 ⟨rfl, rfl⟩)
                  refine wp_flow_tail 9 (by kernel_rfl) (by kernel_rfl) (by kernel_rfl) (by kernel_rfl) (fun u => ⟨#[_, _, _, _, _, _, _, _, _, _, _, _, _, _, _, _, _, _, _, _, _, _, _, _, _, _, _, _, _, _, _, _, _, _, _, _, _, _, _, _, _, _, _, _, _, _, _, _, _, _, _, u 0, u 1, u 2, u 3, u 4, u 5, u 6, u 7, u 8, _, _, _, _, _, _, _, _, _, _, _, _, _, _, _, _, _, _, _, _, _, _, _, _, _, _, _, _, _, _, _, _, _, _, _, _, _, _, _, _, _, _], _⟩) (fun i => List.getD [_, _, _, _, _, _, _, _, _] i undef) [is ?v9_0, is ?v9_1, is ?v9_2, is ?v9_3, is ?v9_4, is ?v9_5, is ?v9_6, is ?v9_7, is ?v9_8] (fun w' => (w'.cell? ⟨gA, gO + k * 2, none⟩ = some (.int .i64 X) ∧ w'.cell? ⟨gA, gO + k * 2 + 1, none⟩ = some (.int .i64 Y) ∧ gA < w'.heap.size) ∧ w'.cell? ⟨b4, 0, none⟩ = some (.int .i64 px) ∧ w'.cell? ⟨b4, 1, none⟩ = some (.int .i64 py) ∧ b4 < w'.heap.size) _ rfl ?hC9 ?hs9 ?hV9 ?fin9
                  case hC9 => exact fun w' hx => HCX.out w' (hx14.trans hx)
                  case hs9 =>
                    repeat' (first
                      | exact FSteps.nil
                      | refine FSteps.cons ?_ ?_
                      | (refine FStep.off_ _ _ _ rfl rfl ?_ (fun _ => rfl) ?_; (focus (intro u w hd; simp [vOf, is, Region.binds] at hd; simp [hd])); (intro w'; exact rfl); done)
                      | ((first
                          | refine FStep.plain rfl ?_
                          | (refine FStep.on_ _ _ _ rfl rfl ?_ ?_; (focus (intro u w hd; simp [vOf, is, Region.binds] at hd; simp [hd]))))
                         intro u w hW hC hd K hK
                         (try simp [vOf, is, Region.binds] at hd)
                         simp only [upd, Nat.reduceEqDiff, if_true, if_false] at hK
                         (try simp only [hd] at hK)
                         go_simp
                         (first
                           | (refine hK _ _ ?_ ?_; (first | exact rfl); (repeat (first | exact Ext.refl _ | assumption | apply Ext.alloc | apply Ext.drew | apply Ext.drewN | (refine Ext.trans ?_ (by assumption))))))))
                  case hV9 => (simp only [List.forall_mem_cons]; simp [stable_is])
                  case fin9 =>
                    intro u w2 hW2 hC2 hd
                    simp only [AllV, is] at hd
                    simp only [List.drop_succ_cons, List.drop_zero]
                    simp only [hd]
                    clear hd
                    clear hC2
                    go_wp2
                    go_roundw
                    case rel => exact ⟨k + 1, false, by omega, by go_num, by rw [HG3.out], rfl, by rw [fto_succ, HFK.out, HXY.out.1, HXY.out.2, HZ.out]; rfl, hbl.trans (hx14.trans hW2)⟩
                    case measure => simp [intOf]; omega
                · cases hzy : (Y == py)
                  · have HZ := hide (And.intro hzx hzy)
                    go_wp2_with (go_at_call 23; refine (btoi_zero _).mono ?_; rintro e w3 ⟨rfl, rfl⟩)
                    refine wp_flow_tail 9 (by kernel_rfl) (by kernel_rfl) (by kernel_rfl) (by kernel_rfl) (fun u => ⟨#[_, _, _, _, _, _, _, _, _, _, _, _, _, _, _, _, _, _, _, _, _, _, _, _, _, _, _, _, _, _, _, _, _, _, _, _, _, _, _, _, _, _, _, _, _, _, _, _, _, _, _, u 0, u 1, u 2, u 3, u 4, u 5, u 6, u 7, u 8, _, _, _, _, _, _, _, _, _, _, _, _, _, _, _, _, _, _, _, _, _, _, _, _, _, _, _, _, _, _, _, _, _, _, _, _, _, _, _, _, _, _], _⟩) (fun i => List.getD [_, _, _, _, _, _, _, _, _] i undef) [is ?v10_0, is ?v10_1, is ?v10_2, is ?v10_3, is ?v10_4, is ?v10_5, is ?v10_6, is ?v10_7, is ?v10_8] (fun w' => (w'.cell? ⟨gA, gO + k * 2, none⟩ = some (.int .i64 X) ∧ w'.cell? ⟨gA, gO + k * 2 + 1, none⟩ = some (.int .i64 Y) ∧ gA < w'.heap.size) ∧ w'.cell? ⟨b4, 0, none⟩ = some (.int .i64 px) ∧ w'.cell? ⟨b4, 1, none⟩ = some (.int .i64 py) ∧ b4 < w'.heap.size) _ rfl ?hC10 ?hs10 ?hV10 ?fin10
                    case hC10 => exact fun w' hx => HCX.out w' (hx14.trans hx)
                    case hs10 =>
                      repeat' (first
                        | exact FSteps.nil
                        | refine FSteps.cons ?_ ?_
                        | (refine FStep.off_ _ _ _ rfl rfl ?_ (fun _ => rfl) ?_; (focus (intro u w hd; simp [vOf, is, Region.binds] at hd; simp [hd])); (intro w'; exact rfl); done)
                        | ((first
                            | refine FStep.plain rfl ?_
                            | (refine FStep.on_ _ _ _ rfl rfl ?_ ?_; (focus (intro u w hd; simp [vOf, is, Region.binds] at hd; simp [hd]))))
                           intro u w hW hC hd K hK
                           (try simp [vOf, is, Region.binds] at hd)
                           simp only [upd, Nat.reduceEqDiff, if_true, if_false] at hK
                           (try simp only [hd] at hK)
                           go_simp
                           (first
                             | (refine hK _ _ ?_ ?_; (first | exact rfl); (repeat (first | exact Ext.refl _ | assumption | apply Ext.alloc | apply Ext.drew | apply Ext.drewN | (refine Ext.trans ?_ (by assumption))))))))
                    case hV10 => (simp only [List.forall_mem_cons]; simp [stable_is])
                    case fin10 =>
                      intro u w2 hW2 hC2 hd
                      simp only [AllV, is] at hd
                      simp only [List.drop_succ_cons, List.drop_zero]
                      simp only [hd]
                      clear hd
                      clear hC2
                      go_wp2
                      go_roundw
                      case rel => exact ⟨k + 1, false, by omega, by go_num, by rw [HG3.out], rfl, by rw [fto_succ, HFK.out, HXY.out.1, HXY.out.2, HZ.out.1, HZ.out.2]; rfl, hbl.trans (hx14.trans hW2)⟩
                      case measure => simp [intOf]; omega
                  · have HZ := hide (And.intro hzx hzy)
                    go_wp2_with (go_at_call 23; refine (btoi_zero _).mono ?_; rintro e w3 ⟨rfl, rfl⟩)
                    refine wp_flow_tail 9 (by kernel_rfl) (by kernel_rfl) (by kernel_rfl) (by kernel_rfl) (fun u => ⟨#[_, _, _, _, _, _, _, _, _, _, _, _, _, _, _, _, _, _, _, _, _, _, _, _, _, _, _, _, _, _, _, _, _, _, _, _, _, _, _, _, _, _, _, _, _, _, _, _, _, _, _, u 0, u 1, u 2, u 3, u 4, u 5, u 6, u 7, u 8, _, _, _, _, _, _, _, _, _, _, _, _, _, _, _, _, _, _, _, _, _, _, _, _, _, _, _, _, _, _, _, _, _, _, _, _, _, _, _, _, _, _], _⟩) (fun i => List.getD [_, _, _, _, _, _, _, _, _] i undef) [is ?v11_0, is ?v11_1, is ?v11_2, is ?v11_3, is ?v11_4, is ?v11_5, is ?v11_6, is ?v11_7, is ?v11_8] (fun w' => (w'.cell? ⟨gA, gO + k * 2, none⟩ = some (.int .i64 X) ∧ w'.cell? ⟨gA, gO + k * 2 + 1, none⟩ = some (.int .i64 Y) ∧ gA < w'.heap.size) ∧ w'.cell? ⟨b4, 0, none⟩ = some (.int .i64 px) ∧ w'.cell? ⟨b4, 1, none⟩ = some (.int .i64 py) ∧ b4 < w'.heap.size) _ rfl ?hC11 ?hs11 ?hV11 ?fin11
                    case hC11 => exact fun w' hx => HCX.out w' (hx14.trans hx)
                    case hs11 =>
                      repeat' (first
                        | exact FSteps.nil
                        | refine FSteps.cons ?_ ?_
                        | (refine FStep.off_ _ _ _ rfl rfl ?_ (fun _ => rfl) ?_; (focus (intro u w hd; simp [vOf, is, Region.binds] at hd; simp [hd])); (intro w'; exact rfl); done)
                        | ((first
                            | refine FStep.plain rfl ?_
                            | (refine FStep.on_ _ _ _ rfl rfl ?_ ?_; (focus (intro u w hd; simp [vOf, is, Region.binds] at hd; simp [hd]))))
                           intro u w hW hC hd K hK
                           (try simp [vOf, is, Region.binds] at hd)
                           simp only [upd, Nat.reduceEqDiff, if_true, if_false] at hK
                           (try simp only [hd] at hK)
                           go_simp
                           (first
                             | (refine hK _ _ ?_ ?_; (first | exact rfl); (repeat (first | exact Ext.refl _ | assumption | apply Ext.alloc | apply Ext.drew | apply Ext.drewN | (refine Ext.trans ?_ (by assumption))))))))
                    case hV11 => (simp only [List.forall_mem_cons]; simp [stable_is])
                    case fin11 =>
                      intro u w2 hW2 hC2 hd
                      simp only [AllV, is] at hd
                      simp only [List.drop_succ_cons, List.drop_zero]
                      simp only [hd]
                      clear hd
                      clear hC2
                      go_wp2
                      go_roundw
                      case rel => exact ⟨k + 1, true, by omega, by go_num, by rw [HG3.out], rfl, by rw [fto_succ, HFK.out, HXY.out.1, HXY.out.2, HZ.out.1, HZ.out.2]; rfl, hbl.trans (hx14.trans hW2)⟩
                      case measure => simp [intOf]; omega
              · go_wp2_with (go_at_call 23; refine (btoi_zero _).mono ?_; rintro e w3 ⟨rfl, rfl⟩)
                refine wp_flow_tail 9 (by kernel_rfl) (by kernel_rfl) (by kernel_rfl) (by kernel_rfl) (fun u => ⟨#[_, _, _, _, _, _, _, _, _, _, _, _, _, _, _, _, _, _, _, _, _, _, _, _, _, _, _, _, _, _, _, _, _, _, _, _, _, _, _, _, _, _, _, _, _, _, _, _, _, _, _, u 0, u 1, u 2, u 3, u 4, u 5, u 6, u 7, u 8, _, _, _, _, _, _, _, _, _, _, _, _, _, _, _, _, _, _, _, _, _, _, _, _, _, _, _, _, _, _, _, _, _, _, _, _, _, _, _, _, _, _], _⟩) (fun i => List.getD [_, _, _, _, _, _, _, _, _] i undef) [is ?v12_0, is ?v12_1, is ?v12_2, is ?v12_3, is ?v12_4, is ?v12_5, is ?v12_6, is ?v12_7, is ?v12_8] (fun w' => (w'.cell? ⟨gA, gO + k * 2, none⟩ = some (.int .i64 X) ∧ w'.cell? ⟨gA, gO + k * 2 + 1, none⟩ = some (.int .i64 Y) ∧ gA < w'.heap.size) ∧ w'.cell? ⟨b4, 0, none⟩ = some (.int .i64 px) ∧ w'.cell? ⟨b4, 1, none⟩ = some (.int .i64 py) ∧ b4 < w'.heap.size) _ rfl ?hC12 ?hs12 ?hV12 ?fin12
                case hC12 => exact fun w' hx => HCX.out w' (hx14.trans hx)
                case hs12 =>
                  repeat' (first
                    | exact FSteps.nil
                    | refine FSteps.cons ?_ ?_
                    | (refine FStep.off_ _ _ _ rfl rfl ?_ (fun _ => rfl) ?_; (focus (intro u w hd; simp [vOf, is, Region.binds] at hd; simp [hd])); (intro w'; exact rfl); done)
                    | ((first
                        | refine FStep.plain rfl ?_
                        | (refine FStep.on_ _ _ _ rfl rfl ?_ ?_; (focus (intro u w hd; simp [vOf, is, Region.binds] at hd; simp [hd]))))
                       intro u w hW hC hd K hK
                       (try simp [vOf, is, Region.binds] at hd)
                       simp only [upd, Nat.reduceEqDiff, if_true, if_false] at hK
                       (try simp only [hd] at hK)
                       go_simp
                       (first
                         | (refine hK _ _ ?_ ?_; (first | exact rfl); (repeat (first | exact Ext.refl _ | assumption | apply Ext.alloc | apply Ext.drew | apply Ext.drewN | (refine Ext.trans ?_ (by assumption))))))))
                case hV12 => (simp only [List.forall_mem_cons]; simp [stable_is])
                case fin12 =>
                  intro u w2 hW2 hC2 hd
                  simp only [AllV, is] at hd
                  simp only [List.drop_succ_cons, List.drop_zero]
                  simp only [hd]
                  clear hd
                  clear hC2
                  go_wp2
                  go_roundw
                  case rel => exact ⟨k + 1, true, by omega, by go_num, by rw [HG3.out], rfl, by rw [fto_succ, HFK.out]; rfl, hbl.trans (hx14.trans hW2)⟩
                  case measure => simp [intOf]; omega
      · have q1 : ¬ (k : Int) < (Q : Int) := by omega
        have e : k = Q := by omega
        have q3 : (3 : Int) ≤ (Q : Int) := by omega
        rw [e] at hf ⊢
        rw [HP3.out]
        have HIN := hide (show isInV L px py = f from HP4.out.trans hf)
        have hq10 : Q ≤ 1048576 := by omega
        clear hf e hk HWT HP8 HP3 HP4
        have H10 : Hid (∀ w', Ext (wq.alloc (.cells #[.int .i64 39, .int .i64 39] 38)) w' → w'.cell? ⟨wq.heap.size, 0, none⟩ = some (.int .i64 39) ∧ w'.cell? ⟨wq.heap.size, 1, none⟩ = some (.int .i64 39) ∧ wq.heap.size < w'.heap.size) := fun w' hx => by
          and_intros <;> (first | (have hz := hx.size; simp at hz; omega) | ((first | rw [hx.cells _ _ (by first | (simp; done) | (simp; omega))] | rw [hx.frozens _ _ (by first | (simp; done) | (simp; omega))]); (first | (simp [go_sem]; done) | (simp [go_sem, World.cell?_alloc_past]; done) | (simp [go_sem, World.frozen?]; done))))
        cases hI0 : (I == 0)
        · have HAP := hide (HP7.out hI0)
          go_wp2_with (first | (go_at_call 16; refine (EdgePoints_at A L c1 N _ _ HLN.out (HR.out _ (hbl.trans (by (repeat (first | exact Ext.refl _ | assumption | apply Ext.alloc | apply Ext.drew | apply Ext.drewN | (refine Ext.trans ?_ (by assumption))))))) hn10 HE.out).mono ?_; rintro e w3 ⟨rfl, y3⟩; have g3 := HB.out w3 (hbl.trans (by (repeat (first | exact Ext.refl _ | assumption | apply Ext.alloc | apply Ext.drew | apply Ext.drewN | (refine Ext.trans ?_ (by assumption)))))); have k3 := H10.out w3 (by (repeat (first | exact Ext.refl _ | assumption | apply Ext.alloc | apply Ext.drew | apply Ext.drewN | (refine Ext.trans ?_ (by assumption)))))) | (go_at_call 24; refine (IsIn_at A L c1 N px py _ _ HLN.out (HR.out _ (hbl.trans (by (repeat (first | exact Ext.refl _ | assumption | apply Ext.alloc | apply Ext.drew | apply Ext.drewN | (refine Ext.trans ?_ (by assumption))))))) hn10 HIN.out).mono ?_; rintro e w4 ⟨rfl, y4⟩; have g4 := HB.out w4 (hbl.trans (by (repeat (first | exact Ext.refl _ | assumption | apply Ext.alloc | apply Ext.drew | apply Ext.drewN | (refine Ext.trans ?_ (by assumption)))))); have k4 := H10.out w4 (by (repeat (first | exact Ext.refl _ | assumption | apply Ext.alloc | apply Ext.drew | apply Ext.drewN | (refine Ext.trans ?_ (by assumption)))))) | (go_at_call 21; refine (PlaceIn_at A L c1 N 39 39 _ _ HLN.out (HR.out _ (hbl.trans (by (repeat (first | exact Ext.refl _ | assumption | apply Ext.alloc | apply Ext.drew | apply Ext.drewN | (refine Ext.trans ?_ (by assumption))))))) hn10 HP5.out).mono ?_; rintro e w5 ⟨rfl, y5⟩; have g5 := HB.out w5 (hbl.trans (by (repeat (first | exact Ext.refl _ | assumption | apply Ext.alloc | apply Ext.drew | apply Ext.drewN | (refine Ext.trans ?_ (by assumption)))))); have k5 := H10.out w5 (by (repeat (first | exact Ext.refl _ | assumption | apply Ext.alloc | apply Ext.drew | apply Ext.drewN | (refine Ext.trans ?_ (by assumption)))))) | (go_at_call 25; refine (CountIn_at A L c1 N _ F c2 Q _ _ HLN.out HFQ.out (HR.out _ (hbl.trans (by (repeat (first | exact Ext.refl _ | assumption | apply Ext.alloc | apply Ext.drew | apply Ext.drewN | (refine Ext.trans ?_ (by assumption))))))) (HRF.out.ext (hbl.trans (by (repeat (first | exact Ext.refl _ | assumption | apply Ext.alloc | apply Ext.drew | apply Ext.drewN | (refine Ext.trans ?_ (by assumption))))))) hn10 hq10 HP6.out).mono ?_; rintro e w6 ⟨rfl, y6⟩; have g6 := HB.out w6 (hbl.trans (by (repeat (first | exact Ext.refl _ | assumption | apply Ext.alloc | apply Ext.drew | apply Ext.drewN | (refine Ext.trans ?_ (by assumption)))))); have k6 := H10.out w6 (by (repeat (first | exact Ext.refl _ | assumption | apply Ext.alloc | apply Ext.drew | apply Ext.drewN | (refine Ext.trans ?_ (by assumption)))))) | (go_at_call 17; refine (InnerPoints_at A L c1 N _ _ HLN.out (HR.out _ (hbl.trans (by (repeat (first | exact Ext.refl _ | assumption | apply Ext.alloc | apply Ext.drew | apply Ext.drewN | (refine Ext.trans ?_ (by assumption))))))) hn10 HI.out).mono ?_; rintro e w7 ⟨rfl, y7⟩; have g7 := HB.out w7 (hbl.trans (by (repeat (first | exact Ext.refl _ | assumption | apply Ext.alloc | apply Ext.drew | apply Ext.drewN | (refine Ext.trans ?_ (by assumption)))))); have k7 := H10.out w7 (by (repeat (first | exact Ext.refl _ | assumption | apply Ext.alloc | apply Ext.drew | apply Ext.drewN | (refine Ext.trans ?_ (by assumption)))))) | (go_at_call 26; refine (AreApart_at A L c1 N _ _ HLN.out (HR.out _ (hbl.trans (by (repeat (first | exact Ext.refl _ | assumption | apply Ext.alloc | apply Ext.drew | apply Ext.drewN | (refine Ext.trans ?_ (by assumption))))))) hn10 HAP.out).mono ?_; rintro e w8 ⟨rfl, y8⟩))
          go_ret
          exact ⟨rfl, (HX0.out.trans (hbl.trans (show Ext wq w8 by (repeat (first | exact Ext.refl _ | assumption | apply Ext.alloc | apply Ext.drew | apply Ext.drewN | (refine Ext.trans ?_ (by assumption))))))).below⟩
        · go_wp2_with (first | (go_at_call 16; refine (EdgePoints_at A L c1 N _ _ HLN.out (HR.out _ (hbl.trans (by (repeat (first | exact Ext.refl _ | assumption | apply Ext.alloc | apply Ext.drew | apply Ext.drewN | (refine Ext.trans ?_ (by assumption))))))) hn10 HE.out).mono ?_; rintro e w3 ⟨rfl, y3⟩; have g3 := HB.out w3 (hbl.trans (by (repeat (first | exact Ext.refl _ | assumption | apply Ext.alloc | apply Ext.drew | apply Ext.drewN | (refine Ext.trans ?_ (by assumption)))))); have k3 := H10.out w3 (by (repeat (first | exact Ext.refl _ | assumption | apply Ext.alloc | apply Ext.drew | apply Ext.drewN | (refine Ext.trans ?_ (by assumption)))))) | (go_at_call 24; refine (IsIn_at A L c1 N px py _ _ HLN.out (HR.out _ (hbl.trans (by (repeat (first | exact Ext.refl _ | assumption | apply Ext.alloc | apply Ext.drew | apply Ext.drewN | (refine Ext.trans ?_ (by assumption))))))) hn10 HIN.out).mono ?_; rintro e w4 ⟨rfl, y4⟩; have g4 := HB.out w4 (hbl.trans (by (repeat (first | exact Ext.refl _ | assumption | apply Ext.alloc | apply Ext.drew | apply Ext.drewN | (refine Ext.trans ?_ (by assumption)))))); have k4 := H10.out w4 (by (repeat (first | exact Ext.refl _ | assumption | apply Ext.alloc | apply Ext.drew | apply Ext.drewN | (refine Ext.trans ?_ (by assumption)))))) | (go_at_call 21; refine (PlaceIn_at A L c1 N 39 39 _ _ HLN.out (HR.out _ (hbl.trans (by (repeat (first | exact Ext.refl _ | assumption | apply Ext.alloc | apply Ext.drew | apply Ext.drewN | (refine Ext.trans ?_ (by assumption))))))) hn10 HP5.out).mono ?_; rintro e w5 ⟨rfl, y5⟩; have g5 := HB.out w5 (hbl.trans (by (repeat (first | exact Ext.refl _ | assumption | apply Ext.alloc | apply Ext.drew | apply Ext.drewN | (refine Ext.trans ?_ (by assumption)))))); have k5 := H10.out w5 (by (repeat (first | exact Ext.refl _ | assumption | apply Ext.alloc | apply Ext.drew | apply Ext.drewN | (refine Ext.trans ?_ (by assumption)))))) | (go_at_call 25; refine (CountIn_at A L c1 N _ F c2 Q _ _ HLN.out HFQ.out (HR.out _ (hbl.trans (by (repeat (first | exact Ext.refl _ | assumption | apply Ext.alloc | apply Ext.drew | apply Ext.drewN | (refine Ext.trans ?_ (by assumption))))))) (HRF.out.ext (hbl.trans (by (repeat (first | exact Ext.refl _ | assumption | apply Ext.alloc | apply Ext.drew | apply Ext.drewN | (refine Ext.trans ?_ (by assumption))))))) hn10 hq10 HP6.out).mono ?_; rintro e w6 ⟨rfl, y6⟩; have g6 := HB.out w6 (hbl.trans (by (repeat (first | exact Ext.refl _ | assumption | apply Ext.alloc | apply Ext.drew | apply Ext.drewN | (refine Ext.trans ?_ (by assumption)))))); have k6 := H10.out w6 (by (repeat (first | exact Ext.refl _ | assumption | apply Ext.alloc | apply Ext.drew | apply Ext.drewN | (refine Ext.trans ?_ (by assumption)))))) | (go_at_call 17; refine (InnerPoints_at A L c1 N _ _ HLN.out (HR.out _ (hbl.trans (by (repeat (first | exact Ext.refl _ | assumption | apply Ext.alloc | apply Ext.drew | apply Ext.drewN | (refine Ext.trans ?_ (by assumption))))))) hn10 HI.out).mono ?_; rintro e w7 ⟨rfl, y7⟩; have g7 := HB.out w7 (hbl.trans (by (repeat (first | exact Ext.refl _ | assumption | apply Ext.alloc | apply Ext.drew | apply Ext.drewN | (refine Ext.trans ?_ (by assumption)))))); have k7 := H10.out w7 (by (repeat (first | exact Ext.refl _ | assumption | apply Ext.alloc | apply Ext.drew | apply Ext.drewN | (refine Ext.trans ?_ (by assumption)))))))
          go_ret
          exact ⟨rfl, (HX0.out.trans (hbl.trans (show Ext wq w7 by (repeat (first | exact Ext.refl _ | assumption | apply Ext.alloc | apply Ext.drew | apply Ext.drewN | (refine Ext.trans ?_ (by assumption))))))).below⟩

end Go.Proofs.Ytanagdlikoinaaa
