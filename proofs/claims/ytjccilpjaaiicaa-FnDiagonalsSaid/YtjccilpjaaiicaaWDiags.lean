/- The walk of FnDiagonals. -/
import Derived.Test.YtjccilpjaaiicaaSegW
import Derived.Test.YtjccilpjaaiicaaDrawT2
import Derived.Test.YtjccilpjaaiicaaWSights
import Derived.Test.YtjccilpjaaiicaaFastF
namespace Go.Proofs.Ytjccilpjaaiicaa
open Go.RowKit

theorem IsDiagonal_at (A : Option Addr) (l : List (Int × Int)) (c N : Nat) (i k : Int) (v : Bool) (w : World) (hN : l.length = N) (hp : RPts w A l) (hn : N ≤ 1048576) (hv : diagB l i k = v) :
    Calls Try.prog 13 #[.agg #[.slice A N c], .int .i64 i, .int .i64 k] w fun e w' => e = .returned (.bool v) ∧ Ext w w' := by
  subst hN hv
  exact IsDiagonal_any A l c i k w hp hn
theorem CutRoom_at (A : Option Addr) (l : List (Int × Int)) (c N : Nat) (i k : Int) (w : World) (hN : l.length = N) (hp : RPts w A l) (hn : N ≤ 1048576) :
    Calls Try.prog 14 #[.agg #[.slice A N c], .int .i64 i, .int .i64 k] w (RetCut 28 (cutA l i k) (cutB2 l i k) (cutOk l i k) w) := by
  subst hN
  exact CutRoom_any A l c i k w hp hn
theorem DiagonalsOf_at (A : Option Addr) (l : List (Int × Int)) (c N : Nat) (w : World) (hN : l.length = N) (hp : RPts w A l) (hn : N ≤ 1048576) :
    Calls Try.prog 15 #[.agg #[.slice A N c]] w (RetR2 33 (dgV l) w) := by
  subst hN
  exact DiagonalsOf_any A l c w hp hn
theorem DoubleArea_at2 (A : Option Addr) (l : List (Int × Int)) (c N : Nat) (v : Int) (w : World) (hN : l.length = N) (hp : RPts w A l) (hn : N ≤ 1048576) (hv : dblV l = v) :
    Calls Try.prog 16 #[.slice A N c] w fun e w' => e = .returned (.int .i64 v) ∧ Ext w w' := by
  subst hN hv
  exact DoubleArea_any A l c w hp hn
theorem RoomOk_at2 (A : Option Addr) (l : List (Int × Int)) (c N : Nat) (v : Bool) (w : World) (hN : l.length = N) (hp : RPts w A l) (hn : N ≤ 1048576) (hv : roomB l = v) :
    Calls Try.prog 17 #[.agg #[.slice A N c]] w fun e w' => e = .returned (.bool v) ∧ Ext w w' := by
  subst hN hv
  exact RoomOk_any A l c w hp hn

/-! ## The end -/

set_option maxRecDepth 100000 in
set_option maxHeartbeats 6400000 in
theorem diags_walk (B : Option Addr) (n c : Nat) (w : World) (hb : RB w B n) :
    Calls Try.prog 4 #[.slice B n c] w fun e w' => e = .returned (.bool true) ∧ Below w.heap.size w w' := by
  by_cases hbig : (1048576 : Int) < (n : Int)
  · go_enter Try.func4, Try.ntmps4
    go_wp2_with (go_at_call 5; refine (big_any _ _ _ _).mono ?_; rintro e w1 ⟨rfl, rfl⟩)
    go_ret
    exact ⟨rfl, Below.refl _ _⟩
  · have hn : n ≤ 1048576 := by omega
    go_enter Try.func4, Try.ntmps4
    go_wp2_with (go_at_call 5; refine (big_any _ _ _ _).mono ?_; rintro e w1 ⟨rfl, rfl⟩)
    refine (DrawDiagonal_any B n c w hb hn).mono ?_
    rintro e w1 ⟨L, A, c1, i, k, rfl, hcap, hD, ⟨hi, hk⟩, own, x1⟩
    obtain ⟨hr, p1, p2, p3, p4, p5, p6⟩ := Jor.diagonals_plain hD hi hk
    have hN3 : 3 ≤ L.length := (roomB_fine hr).2
    have hN10 : L.length ≤ 10 := (roomB_fine hr).1.2
    have hql : (dgV L).length ≤ 100 := by
      unfold dgV
      rw [if_pos hr]
      exact dgTo_bd hN10 (Nat.le_refl _)
    have hcA : (cutA L i k).length ≤ 20 ∧ (cutB2 L i k).length ≤ 20 := by
      unfold cutA cutB2
      have g1 := gap_lt hi hk
      have g2 := gap_lt hk hi
      constructor
      · split
        · rw [stL_length, Int.toNat_natCast, Int.toNat_natCast]; omega
        · simp
      · split
        · rw [stL_length, Int.toNat_natCast, Int.toNat_natCast]; omega
        · simp
    have r1 : RPts w1 A L := own.r (Nat.le_refl _)
    have harea := areaTo_bd (roomB_fine hr).1 L.length (Nat.le_refl _)
    have hdb : dblV L = areaZ L := Jor.dbl_room hr
    obtain ⟨N, hN⟩ : ∃ N, L.length = N := ⟨_, rfl⟩
    obtain ⟨F, hF⟩ : ∃ F, dgV L = F := ⟨_, rfl⟩
    obtain ⟨d, hd⟩ : ∃ d, diagB L i k = d := ⟨_, rfl⟩
    obtain ⟨ok, hok⟩ : ∃ ok, cutOk L i k = ok := ⟨_, rfl⟩
    obtain ⟨CA, hCA⟩ : ∃ CA, cutA L i k = CA := ⟨_, rfl⟩
    obtain ⟨CB, hCB⟩ : ∃ CB, cutB2 L i k = CB := ⟨_, rfl⟩
    rw [hF] at p2 p5 hql
    rw [hd] at p1 p2 p3 p4
    rw [hok] at p4 p6
    rw [hCA] at p6 hcA
    rw [hCB] at p6 hcA
    obtain ⟨Q, hQ⟩ : ∃ Q, F.length = Q := ⟨_, rfl⟩
    obtain ⟨NA, hNA⟩ : ∃ NA, CA.length = NA := ⟨_, rfl⟩
    obtain ⟨NB, hNB⟩ : ∃ NB, CB.length = NB := ⟨_, rfl⟩
    obtain ⟨D, hDD⟩ : ∃ D, dblV L = D := ⟨_, rfl⟩
    obtain ⟨DA, hDA⟩ : ∃ DA, dblV CA = DA := ⟨_, rfl⟩
    obtain ⟨DB, hDB⟩ : ∃ DB, dblV CB = DB := ⟨_, rfl⟩
    rw [hN] at hcap hN3 hN10 p5 hi hk p6 ⊢
    rw [hQ] at p2 p5 hql
    rw [hNA] at p6 hcA
    rw [hNB] at p6 hcA
    rw [hDD] at p6 hdb
    rw [hDA, hDB] at p6
    have hDb : -32000 ≤ D ∧ D ≤ 32000 := by
      rw [hdb]
      unfold areaZ
      omega
    have HLN := hide hN
    have HF := hide hF
    have HQ := hide hQ
    have HDI := hide hd
    have HOK := hide hok
    have HCA := hide hCA
    have HCB := hide hCB
    have HNA := hide hNA
    have HNB := hide hNB
    have HDD := hide hDD
    have HDA := hide hDA
    have HDB := hide hDB
    have HP1 := hide p1
    have HP2 := hide p2
    have HP3 := hide p3
    have HP4 := hide p4
    have HP6 := hide p6
    have hn10 : N ≤ 1048576 := by omega
    have hi2 : (i : Int) < (N : Int) := by omega
    have hk2 : (k : Int) < (N : Int) := by omega
    clear hN hF hQ hd hok hCA hCB hNA hNB hDD hDA hDB hD hr own p1 p2 p3 p4 p6 harea hdb
    have HB : Hid (∀ w', Ext (w1.alloc (.cells #[.slice A N c1] 26)) w' → w'.cell? ⟨w1.heap.size, 0, none⟩ = some (.slice A N c1) ∧ w1.heap.size < w'.heap.size) := fun w' hx => by
      and_intros <;> (first | (have hz := hx.size; simp at hz; omega) | ((first | rw [hx.cells _ _ (by first | (simp; done) | (simp; omega))] | rw [hx.frozens _ _ (by first | (simp; done) | (simp; omega))]); (first | (simp [go_sem]; done) | (simp [go_sem, World.cell?_alloc_past]; done) | (simp [go_sem, World.frozen?]; done))))
    go_wp2_with fail
    refine (IsDiagonal_at A L c1 N i k _ _ HLN.out (r1.ext (by (repeat (first | exact Ext.refl _ | assumption | apply Ext.alloc | apply Ext.drew | apply Ext.drewN | (refine Ext.trans ?_ (by assumption)))))) hn10 HDI.out).mono ?_
    rintro e wa ⟨rfl, xa⟩
    have fa := HB.out wa (by (repeat (first | exact Ext.refl _ | assumption | apply Ext.alloc | apply Ext.drew | apply Ext.drewN | (refine Ext.trans ?_ (by assumption)))))
    go_wp2_with fail
    refine (CutRoom_at A L c1 N i k _ HLN.out (r1.ext (by (repeat (first | exact Ext.refl _ | assumption | apply Ext.alloc | apply Ext.drew | apply Ext.drewN | (refine Ext.trans ?_ (by assumption)))))) hn10).mono ?_
    rw [HCA.out, HCB.out, HOK.out]
    rintro e wb ⟨A1, cA, A2, cB, a1, a2, b1, b2, rfl, oA, oB, _, za, _, zb, _, xb⟩
    rw [HNA.out, HNB.out]
    have rA : RPts wb A1 CA := oA.r za
    have rB : RPts wb A2 CB := oB.r zb
    have fb := HB.out wb (by (repeat (first | exact Ext.refl _ | assumption | apply Ext.alloc | apply Ext.drew | apply Ext.drewN | (refine Ext.trans ?_ (by assumption)))))
    clear oA oB za zb
    have HC : Hid (∀ w', Ext ((wb.alloc (.cells #[.slice A1 NA cA] 26)).alloc (.cells #[.slice A2 NB cB] 26)) w' → w'.cell? ⟨wb.heap.size, 0, none⟩ = some (.slice A1 NA cA) ∧ wb.heap.size < w'.heap.size ∧ w'.cell? ⟨wb.heap.size + 1, 0, none⟩ = some (.slice A2 NB cB) ∧ wb.heap.size + 1 < w'.heap.size) := fun w' hx => by
      and_intros <;> (first | (have hz := hx.size; simp at hz; omega) | ((first | rw [hx.cells _ _ (by first | (simp; done) | (simp; omega))] | rw [hx.frozens _ _ (by first | (simp; done) | (simp; omega))]); (first | (simp [go_sem]; done) | (simp [go_sem, World.cell?_alloc_past]; done) | (simp [go_sem, World.frozen?]; done))))
    go_wp2_with fail
    refine (DiagonalsOf_at A L c1 N _ HLN.out (r1.ext (by (repeat (first | exact Ext.refl _ | assumption | apply Ext.alloc | apply Ext.drew | apply Ext.drewN | (refine Ext.trans ?_ (by assumption)))))) hn10).mono ?_
    rw [HF.out]
    rintro e wc ⟨A3, c3, rfl, oR, xc⟩
    rw [HQ.out]
    have rR : RRows wc A3 F := oR.r
    have fc := HB.out wc (by (repeat (first | exact Ext.refl _ | assumption | apply Ext.alloc | apply Ext.drew | apply Ext.drewN | (refine Ext.trans ?_ (by assumption)))))
    have gc := HC.out wc (by (repeat (first | exact Ext.refl _ | assumption | apply Ext.alloc | apply Ext.drew | apply Ext.drewN | (refine Ext.trans ?_ (by assumption)))))
    clear oR
    obtain ⟨b3, hb3⟩ : ∃ b3, b3 = w1.heap.size := ⟨_, rfl⟩
    obtain ⟨b7, hb7⟩ : ∃ b7, b7 = wb.heap.size := ⟨_, rfl⟩
    obtain ⟨b8, hb8⟩ : ∃ b8, b8 = wb.heap.size + 1 := ⟨_, rfl⟩
    have HBQ := hide (show ∀ w', Ext wc w' → (w'.cell? ⟨b3, 0, none⟩ = some (.slice A N c1) ∧ b3 < w'.heap.size) ∧ (w'.cell? ⟨b7, 0, none⟩ = some (.slice A1 NA cA) ∧ b7 < w'.heap.size) ∧ w'.cell? ⟨b8, 0, none⟩ = some (.slice A2 NB cB) ∧ b8 < w'.heap.size from fun w' hx => by
      have h := HB.out w' (Ext.trans (by (repeat (first | exact Ext.refl _ | assumption | apply Ext.alloc | apply Ext.drew | apply Ext.drewN | (refine Ext.trans ?_ (by assumption))))) hx)
      have h2 := HC.out w' (Ext.trans (by (repeat (first | exact Ext.refl _ | assumption | apply Ext.alloc | apply Ext.drew | apply Ext.drewN | (refine Ext.trans ?_ (by assumption))))) hx)
      rw [hb3, hb7, hb8]
      exact ⟨⟨h.1, h.2⟩, ⟨h2.1, h2.2.1⟩, h2.2.2.1, h2.2.2.2⟩)
    have HR := hide (show ∀ w', Ext wc w' → RPts w' A L from fun w' hx => r1.ext (Ext.trans (show Ext w1 wc by (repeat (first | exact Ext.refl _ | assumption | apply Ext.alloc | apply Ext.drew | apply Ext.drewN | (refine Ext.trans ?_ (by assumption))))) hx))
    have HRA := hide (show ∀ w', Ext wc w' → RPts w' A1 CA from fun w' hx => rA.ext (Ext.trans (show Ext wb wc by (repeat (first | exact Ext.refl _ | assumption | apply Ext.alloc | apply Ext.drew | apply Ext.drewN | (refine Ext.trans ?_ (by assumption))))) hx))
    have HRB := hide (show ∀ w', Ext wc w' → RPts w' A2 CB from fun w' hx => rB.ext (Ext.trans (show Ext wb wc by (repeat (first | exact Ext.refl _ | assumption | apply Ext.alloc | apply Ext.drew | apply Ext.drewN | (refine Ext.trans ?_ (by assumption))))) hx))
    have HX0 := hide (show Ext w wc by (repeat (first | exact Ext.refl _ | assumption | apply Ext.alloc | apply Ext.drew | apply Ext.drewN | (refine Ext.trans ?_ (by assumption)))))
    have HRR := hide rR
    rw [← hb8, ← hb7, ← hb3]
    clear HB HC fa fb fc gc xa xb xc r1 rA rB hb3 hb7 hb8 x1 rR hb
    have HB := HBQ
    clear HBQ
    obtain ⟨mn, hmn⟩ : ∃ mn, min (i : Int) (k : Int) = mn := ⟨_, rfl⟩
    obtain ⟨mx, hmx⟩ : ∃ mx, max (i : Int) (k : Int) = mx := ⟨_, rfl⟩
    have hp2 := HP2.out
    rw [hmn, hmx] at hp2
    have HP2' := hide hp2
    have HMN := hide (And.intro hmn hmx)
    clear HP2 hp2
    go_wp2
    go_loopw [11, 12] (fun fv qv wr => ∃ (q : Nat) (f : Bool), q ≤ Q ∧ qv = .int .i64 (q : Int) ∧ fv = .bool f ∧ fto F mn mx q = f ∧ Ext wc wr) (fun _ qv _ => Q - (intOf qv).toNat)
    case atStart => exact ⟨0, false, Nat.zero_le _, rfl, rfl, rfl, Ext.refl _⟩
    case round =>
      obtain ⟨q, f, hq, rfl, rfl, hf, hbl⟩ := hrel
      obtain ⟨wq, rfl⟩ : ∃ wq : World, wq = wr := ⟨_, rfl⟩
      have fq := HB.out wq hbl
      by_cases hqq : q < Q
      · have q1 : (q : Int) < (Q : Int) := by omega
        have HFK := hide hf
        obtain ⟨gR, bR, hgA, z1, z2, z3⟩ := (HRR.out.ext hbl).at_ (show q < F.length by rw [HQ.out]; exact hqq)
        subst hgA
        obtain ⟨bq, oq, hq1, hq2, hq3⟩ := z3.at_ (show 0 < (two F q).length by simp [two])
        obtain ⟨bq', oq', hq1', _, hq4⟩ := z3.at_ (show 1 < (two F q).length by simp [two])
        injection hq1 with hq1
        injection hq1 with hqb hqo
        injection hq1' with hq1'
        injection hq1' with hqb' hqo'
        subst hqb hqo hqb' hqo'
        obtain ⟨X, hX⟩ : ∃ X, gx F q = X := ⟨_, rfl⟩
        obtain ⟨Y, hY⟩ : ∃ Y, gy F q = Y := ⟨_, rfl⟩
        have hgi0 : gi (two F q) 0 = X := by rw [← hX]; simp [two, gi]
        have hgi1 : gi (two F q) 1 = Y := by rw [← hY]; simp [two, gi]
        rw [hgi0] at hq3
        rw [hgi1] at hq4
        have HXY := hide (And.intro hX hY)
        simp only [Nat.add_zero, Nat.zero_add] at hq3 hq4
        clear hX hY hgi0 hgi1 z3 HB HR HRA HRB HRR HX0 HP1 HP2' HP3 HP4 HP6 HF HDI HOK HCA HCB HNA HNB HDD HDA HDB hf fq
        cases f
        · cases hzx : (X == mn)
          · have HZ := hide hzx
            go_wp2
            go_roundw
            case rel => exact ⟨q + 1, false, by omega, by go_num, rfl, by rw [fto_succ, HFK.out, HXY.out.1, HXY.out.2, HZ.out]; rfl, hbl⟩
            case measure => simp [intOf]; omega
          · cases hzy : (Y == mx)
            · have HZ := hide (And.intro hzx hzy)
              go_wp2
              go_roundw
              case rel => exact ⟨q + 1, false, by omega, by go_num, rfl, by rw [fto_succ, HFK.out, HXY.out.1, HXY.out.2, HZ.out.1, HZ.out.2]; rfl, hbl⟩
              case measure => simp [intOf]; omega
            · have HZ := hide (And.intro hzx hzy)
              go_wp2
              go_roundw
              case rel => exact ⟨q + 1, true, by omega, by go_num, rfl, by rw [fto_succ, HFK.out, HXY.out.1, HXY.out.2, HZ.out.1, HZ.out.2]; rfl, hbl⟩
              case measure => simp [intOf]; omega
        · go_wp2
          go_roundw
          case rel => exact ⟨q + 1, true, by omega, by go_num, rfl, by rw [fto_succ, HFK.out]; rfl, hbl⟩
          case measure => simp [intOf]; omega
      · have e : q = Q := by omega
        rw [e] at hf
        have hfd : f = d := hf.symm.trans HP2'.out
        rw [hfd]
        have h1 : IntKind.i64.wrap ((N : Int) - 3) = (N : Int) - 3 := wrap_in _ (by omega) (by omega)
        have h2 : ¬ (Q : Int) < (N : Int) - 3 := by omega
        have HX1 := hide (show Ext w wq from HX0.out.trans hbl)
        have HB1 := hide (show ∀ w', Ext wq w' → (w'.cell? ⟨b3, 0, none⟩ = some (.slice A N c1) ∧ b3 < w'.heap.size) ∧ (w'.cell? ⟨b7, 0, none⟩ = some (.slice A1 NA cA) ∧ b7 < w'.heap.size) ∧ w'.cell? ⟨b8, 0, none⟩ = some (.slice A2 NB cB) ∧ b8 < w'.heap.size from fun w' hx => HB.out w' (hbl.trans hx))
        have HR1 := hide (show ∀ w', Ext wq w' → RPts w' A L from fun w' hx => HR.out w' (hbl.trans hx))
        have HRA1 := hide (show ∀ w', Ext wq w' → RPts w' A1 CA from fun w' hx => HRA.out w' (hbl.trans hx))
        have HRB1 := hide (show ∀ w', Ext wq w' → RPts w' A2 CB from fun w' hx => HRB.out w' (hbl.trans hx))
        clear hf e hfd hq HX0 HB HR HRA HRB HRR HP2' HMN hmn hmx HF HQ fq hbl
        cases d
        · have hok : ok = false := by
            cases ok
            · rfl
            · exact absurd (HP4.out rfl) (by decide)
          subst hok
          by_cases h3 : (3 : Int) < (N : Int)
          · go_wp2
            refine wp_flow (by kernel_rfl) (by kernel_rfl) (fun u => ⟨#[_, _, _, _, _, _, _, _, _, _, _, _, _, _, _, _, _, _, _, _, _, _, _, _, _, _, _, _, _, _, _, _, _, _, _, _, _, _, _, _, _, _, _, _, _, _, _, _, _, _, _, _, _, _, _, _, _, _, _, _, _, _, _, _, _, _, _, _, _, _, _, _, _, _, u 0, u 1, u 2, u 3, u 4, u 5, u 6, u 7, u 8, u 9, u 10, u 11, u 12, u 13, u 14, u 15, u 16, u 17, u 18, u 19, u 20, u 21, u 22, u 23, u 24, u 25, u 26, u 27, u 28, u 29, u 30, u 31, u 32, u 33, u 34, u 35, u 36, u 37, u 38, u 39, u 40, u 41, u 42, u 43, u 44, u 45, u 46, u 47, u 48, u 49, u 50, _, _, _, _, _, _, _, _, _, _, _, _, _, _, _, _, _, _, _, _, _, _, _, _, _, _, _, _, _, _, _, _, _, _, _, _, _], _⟩) (fun i => List.getD [_, _, _, _, _, _, _, _, _, _, _, _, _, _, _, _, _, _, _, _, _, _, _, _, _, _, _, _, _, _, _, _, _, _, _, _, _, _, _, _, _, _, _, _, _, _, _, _, _, _, _] i undef) [is (.bool false), is (.agg #[.slice A N c1]), is (.int .i64 ((k : Int))), is (.int .i64 ((i : Int))), is (.bool false), is (.bool false), is (.bool false), is (.bool false), is (.bool false), is (.bool false), is (.bool false), is (.bool false), is (.bool false), is (.bool false), is (undef), is (undef), is (undef), is (undef), is (undef), is (undef), is (undef), is (undef), is (undef), is (undef), is (undef), is (undef), is (undef), is (.bool false), is (.bool false), is (.bool false), is (.bool false), is (.bool false), is (undef), is (undef), is (.bool false), is (.bool false), is (.bool false), is (.pointer (some ⟨b3, 0, none⟩)), is (.slice A N c1), is (.int .i64 ((N : Int))), is (.bool true), is (.bool true), is (.slice A3 Q c3), is (.int .i64 ((Q : Int))), is (.pointer (some ⟨b3, 0, none⟩)), is (.slice A N c1), is (.int .i64 ((N : Int))), is (.int .i64 ((N : Int) - 3)), is (.bool false), is (.bool false), is (.bool false)] (fun w' => w'.cell? ⟨b3, 0, none⟩ = some (.slice A N c1) ∧ b3 < w'.heap.size) _ rfl ?hC1 ?hs1 ?hV1 ?fin1
            case hC1 => exact fun w' hx => (HB1.out w' hx).1
            case hs1 =>
              refine FSteps.cons (FStep.value (.bool false) (fun _ _ _ => wanted_none rfl) (fun _ _ => rfl) (fun _ => rfl) (fun u w hW hC (hd : After _ _ u w) ρ hρ => ?_)) ?_
              · have r6 : ρ (.tmp 6) = .bool false := (by subst hρ; rfl); clear hρ hd
                (go_simp; (try (first | exact wrap_in _ (by omega) (by omega) | omega)))
              refine FSteps.cons (FStep.value (.agg #[.slice A N c1]) (fun _ _ _ => wanted_none rfl) (fun _ _ => rfl) (fun _ => rfl) (fun u w hW hC (hd : After _ _ u w) ρ hρ => ?_)) ?_
              · have r3 : ρ (.tmp 3) = .pointer (some ⟨b3, 0, none⟩) := (by subst hρ; rfl); clear hρ hd
                (go_simp; (try (first | exact wrap_in _ (by omega) (by omega) | omega)))
              refine FSteps.cons (FStep.value (.int .i64 ((k : Int))) (fun _ _ _ => wanted_none rfl) (fun _ _ => rfl) (fun _ => rfl) (fun u w hW hC (hd : After _ _ u w) ρ hρ => ?_)) ?_
              · have r5 : ρ (.tmp 5) = .int .i64 ((k : Int)) := (by subst hρ; rfl); clear hρ hd
                (go_simp; (try (first | exact wrap_in _ (by omega) (by omega) | omega)))
              refine FSteps.cons (FStep.value (.int .i64 ((i : Int))) (fun _ _ _ => wanted_none rfl) (fun _ _ => rfl) (fun _ => rfl) (fun u w hW hC (hd : After _ _ u w) ρ hρ => ?_)) ?_
              · have r4 : ρ (.tmp 4) = .int .i64 ((i : Int)) := (by subst hρ; rfl); clear hρ hd
                (go_simp; (try (first | exact wrap_in _ (by omega) (by omega) | omega)))
              refine FSteps.cons (FStep.callC (.bool false) _ #[.agg #[.slice A N c1], .int .i64 ((k : Int)), .int .i64 ((i : Int))] (fun _ _ _ => wanted_none rfl) (fun _ _ => rfl) (fun _ => rfl) (fun u w hW hC (hd : After _ _ u w) ρ hρ => ?_) (fun w hW => IsDiagonal_at A L c1 N k i _ w HLN.out (HR1.out w (by (repeat (first | exact Ext.refl _ | assumption | apply Ext.alloc | apply Ext.drew | apply Ext.drewN | (refine Ext.trans ?_ (by assumption)))))) hn10 HP1.out)) ?_
              · have r75 : ρ (.tmp 75) = .agg #[.slice A N c1] := (by rw [hρ]; exact hd.get 0 _ rfl rfl); have r76 : ρ (.tmp 76) = .int .i64 ((k : Int)) := (by rw [hρ]; exact hd.get 1 _ rfl rfl); have r77 : ρ (.tmp 77) = .int .i64 ((i : Int)) := (by rw [hρ]; exact hd.get 2 _ rfl rfl); have rf : ∀ f, ρ (.func f) = .func (.func f) #[] #[] := (by subst hρ; exact fun _ => rfl); clear hρ hd
                (go_simp; (try (first | exact wrap_in _ (by omega) (by omega) | omega)))
              refine FSteps.cons (FStep.value (.bool false) (fun _ _ _ => wanted_none rfl) (fun _ _ => rfl) (fun _ => rfl) (fun u w hW hC (hd : After _ _ u w) ρ hρ => ?_)) ?_
              · have r74 : ρ (.tmp 74) = .bool false := (by rw [hρ]; exact hd.get 0 _ rfl rfl); have r78 : ρ (.tmp 78) = .bool false := (by rw [hρ]; exact hd.get 1 _ rfl rfl); clear hρ hd
                (go_simp; (try (first | exact wrap_in _ (by omega) (by omega) | omega)))
              refine FSteps.cons (FStep.value (.bool false) (fun _ _ _ => wanted_none rfl) (fun _ _ => rfl) (fun _ => rfl) (fun u w hW hC (hd : After _ _ u w) ρ hρ => ?_)) ?_
              · have r79 : ρ (.tmp 79) = .bool false := (by rw [hρ]; exact hd.get 0 _ rfl rfl); clear hρ hd
                (go_simp; (try (first | exact wrap_in _ (by omega) (by omega) | omega)))
              refine FSteps.cons (FStep.value (.bool false) (fun u w hd => wanted_on 6 80 false rfl rfl (congrArg some (hd.get 0 _ rfl rfl))) (fun _ _ => rfl) (fun _ => rfl) (fun u w hW hC (hd : After _ _ u w) ρ hρ => ?_)) ?_
              · have r11 : ρ (.tmp 11) = .bool false := (by subst hρ; rfl); clear hρ hd
                (go_simp; (try (first | exact wrap_in _ (by omega) (by omega) | omega)))
              refine FSteps.cons (FStep.value (.bool false) (fun u w hd => wanted_on 6 80 false rfl rfl (congrArg some (hd.get 0 _ rfl rfl))) (fun _ _ => rfl) (fun _ => rfl) (fun u w hW hC (hd : After _ _ u w) ρ hρ => ?_)) ?_
              · have r6 : ρ (.tmp 6) = .bool false := (by subst hρ; rfl); clear hρ hd
                (go_simp; (try (first | exact wrap_in _ (by omega) (by omega) | omega)))
              refine FSteps.cons (FStep.value (.bool false) (fun u w hd => wanted_on 6 80 false rfl rfl (congrArg some (hd.get 2 _ rfl rfl))) (fun _ _ => rfl) (fun _ => rfl) (fun u w hW hC (hd : After _ _ u w) ρ hρ => ?_)) ?_
              · have r81 : ρ (.tmp 81) = .bool false := (by rw [hρ]; exact hd.get 0 _ rfl rfl); have r82 : ρ (.tmp 82) = .bool false := (by rw [hρ]; exact hd.get 1 _ rfl rfl); clear hρ hd
                (go_simp; (try (first | exact wrap_in _ (by omega) (by omega) | omega)))
              refine FSteps.cons (FStep.value (.bool false) (fun _ _ _ => wanted_none rfl) (fun _ _ => rfl) (fun _ => rfl) (fun u w hW hC (hd : After _ _ u w) ρ hρ => ?_)) ?_
              · have r80 : ρ (.tmp 80) = .bool false := (by rw [hρ]; exact hd.get 0 _ rfl rfl); have r83 : ρ (.tmp 83) = .bool false := (by rw [hρ]; exact hd.get 1 _ rfl rfl); have rc : ∀ v, ρ (.const v) = v := (by subst hρ; exact fun _ => rfl); clear hρ hd
                (go_simp; (try (first | exact wrap_in _ (by omega) (by omega) | omega)))
              refine FSteps.cons (FStep.value (.bool false) (fun _ _ _ => wanted_none rfl) (fun _ _ => rfl) (fun _ => rfl) (fun u w hW hC (hd : After _ _ u w) ρ hρ => ?_)) ?_
              · have r84 : ρ (.tmp 84) = .bool false := (by rw [hρ]; exact hd.get 0 _ rfl rfl); clear hρ hd
                (go_simp; (try (first | exact wrap_in _ (by omega) (by omega) | omega)))
              refine FSteps.cons (FStep.value (.bool false) (fun u w hd => wanted_on 11 85 false rfl rfl (congrArg some (hd.get 0 _ rfl rfl))) (fun _ _ => rfl) (fun _ => rfl) (fun u w hW hC (hd : After _ _ u w) ρ hρ => ?_)) ?_
              · have r6 : ρ (.tmp 6) = .bool false := (by subst hρ; rfl); clear hρ hd
                (go_simp; (try (first | exact wrap_in _ (by omega) (by omega) | omega)))
              refine FSteps.cons (FStep.value (.bool false) (fun u w hd => wanted_on 11 85 false rfl rfl (congrArg some (hd.get 1 _ rfl rfl))) (fun _ _ => rfl) (fun _ => rfl) (fun u w hW hC (hd : After _ _ u w) ρ hρ => ?_)) ?_
              · have r86 : ρ (.tmp 86) = .bool false := (by rw [hρ]; exact hd.get 0 _ rfl rfl); clear hρ hd
                (go_simp; (try (first | exact wrap_in _ (by omega) (by omega) | omega)))
              refine FSteps.cons (FStep.off_ 13 87 true rfl rfl (fun u w hd => .inl (congrArg some (After.get (V := vOf _) hd 0 _ rfl rfl))) (fun _ => rfl) (fun _ => rfl)) ?_
              refine FSteps.cons (FStep.off_ 13 87 true rfl rfl (fun u w hd => .inl (congrArg some (After.get (V := vOf _) hd 0 _ rfl rfl))) (fun _ => rfl) (fun _ => rfl)) ?_
              refine FSteps.cons (FStep.off_ 13 87 true rfl rfl (fun u w hd => .inl (congrArg some (After.get (V := vOf _) hd 1 _ rfl rfl))) (fun _ => rfl) (fun _ => rfl)) ?_
              refine FSteps.cons (FStep.off_ 13 87 true rfl rfl (fun u w hd => .inl (congrArg some (After.get (V := vOf _) hd 0 _ rfl rfl))) (fun _ => rfl) (fun _ => rfl)) ?_
              refine FSteps.cons (FStep.off_ 13 87 true rfl rfl (fun u w hd => .inl (congrArg some (After.get (V := vOf _) hd 2 _ rfl rfl))) (fun _ => rfl) (fun _ => rfl)) ?_
              refine FSteps.cons (FStep.off_ 13 87 true rfl rfl (fun u w hd => .inl (congrArg some (After.get (V := vOf _) hd 1 _ rfl rfl))) (fun _ => rfl) (fun _ => rfl)) ?_
              refine FSteps.cons (FStep.off_ 13 87 true rfl rfl (fun u w hd => .inl (congrArg some (After.get (V := vOf _) hd 0 _ rfl rfl))) (fun _ => rfl) (fun _ => rfl)) ?_
              refine FSteps.cons (FStep.off_ 13 87 true rfl rfl (fun u w hd => .inl (congrArg some (After.get (V := vOf _) hd 1 _ rfl rfl))) (fun _ => rfl) (fun _ => rfl)) ?_
              refine FSteps.cons (FStep.off_ 13 87 true rfl rfl (fun u w hd => .inl (congrArg some (After.get (V := vOf _) hd 0 _ rfl rfl))) (fun _ => rfl) (fun _ => rfl)) ?_
              refine FSteps.cons (FStep.off_ 13 87 true rfl rfl (fun u w hd => .inl (congrArg some (After.get (V := vOf _) hd 2 _ rfl rfl))) (fun _ => rfl) (fun _ => rfl)) ?_
              refine FSteps.cons (FStep.off_ 13 87 true rfl rfl (fun u w hd => .inl (congrArg some (After.get (V := vOf _) hd 1 _ rfl rfl))) (fun _ => rfl) (fun _ => rfl)) ?_
              refine FSteps.cons (FStep.off_ 13 87 true rfl rfl (fun u w hd => .inl (congrArg some (After.get (V := vOf _) hd 3 _ rfl rfl))) (fun _ => rfl) (fun _ => rfl)) ?_
              refine FSteps.cons (FStep.off_ 13 87 true rfl rfl (fun u w hd => .inl (congrArg some (After.get (V := vOf _) hd 1 _ rfl rfl))) (fun _ => rfl) (fun _ => rfl)) ?_
              refine FSteps.cons (FStep.value (.bool false) (fun u w hd => wanted_on 11 85 false rfl rfl (congrArg some (hd.get 2 _ rfl rfl))) (fun _ _ => rfl) (fun _ => rfl) (fun u w hW hC (hd : After _ _ u w) ρ hρ => ?_)) ?_
              · have r87 : ρ (.tmp 87) = .bool false := (by rw [hρ]; exact hd.get 0 _ rfl rfl); have r100 : ρ (.tmp 100) = undef := (by rw [hρ]; exact hd.get 1 _ rfl rfl); have rc : ∀ v, ρ (.const v) = v := (by subst hρ; exact fun _ => rfl); clear hρ hd
                (go_simp; (try (first | exact wrap_in _ (by omega) (by omega) | omega)))
              refine FSteps.cons (FStep.value (.bool false) (fun _ _ _ => wanted_none rfl) (fun _ _ => rfl) (fun _ => rfl) (fun u w hW hC (hd : After _ _ u w) ρ hρ => ?_)) ?_
              · have r85 : ρ (.tmp 85) = .bool false := (by rw [hρ]; exact hd.get 0 _ rfl rfl); have r101 : ρ (.tmp 101) = .bool false := (by rw [hρ]; exact hd.get 1 _ rfl rfl); have rc : ∀ v, ρ (.const v) = v := (by subst hρ; exact fun _ => rfl); clear hρ hd
                (go_simp; (try (first | exact wrap_in _ (by omega) (by omega) | omega)))
              refine FSteps.cons (FStep.value (.bool false) (fun _ _ _ => wanted_none rfl) (fun _ _ => rfl) (fun _ => rfl) (fun u w hW hC (hd : After _ _ u w) ρ hρ => ?_)) ?_
              · have r102 : ρ (.tmp 102) = .bool false := (by rw [hρ]; exact hd.get 0 _ rfl rfl); clear hρ hd
                (go_simp; (try (first | exact wrap_in _ (by omega) (by omega) | omega)))
              refine FSteps.cons (FStep.value (.bool false) (fun u w hd => wanted_on 29 103 false rfl rfl (congrArg some (hd.get 0 _ rfl rfl))) (fun _ _ => rfl) (fun _ => rfl) (fun u w hW hC (hd : After _ _ u w) ρ hρ => ?_)) ?_
              · have r9 : ρ (.tmp 9) = .bool false := (by subst hρ; rfl); clear hρ hd
                (go_simp; (try (first | exact wrap_in _ (by omega) (by omega) | omega)))
              refine FSteps.cons (FStep.value (.bool false) (fun u w hd => wanted_on 29 103 false rfl rfl (congrArg some (hd.get 1 _ rfl rfl))) (fun _ _ => rfl) (fun _ => rfl) (fun u w hW hC (hd : After _ _ u w) ρ hρ => ?_)) ?_
              · have r104 : ρ (.tmp 104) = .bool false := (by rw [hρ]; exact hd.get 0 _ rfl rfl); clear hρ hd
                (go_simp; (try (first | exact wrap_in _ (by omega) (by omega) | omega)))
              refine FSteps.cons (FStep.off_ 31 105 true rfl rfl (fun u w hd => .inl (congrArg some (After.get (V := vOf _) hd 0 _ rfl rfl))) (fun _ => rfl) (fun _ => rfl)) ?_
              refine FSteps.cons (FStep.off_ 31 105 true rfl rfl (fun u w hd => .inl (congrArg some (After.get (V := vOf _) hd 1 _ rfl rfl))) (fun _ => rfl) (fun _ => rfl)) ?_
              refine FSteps.cons (FStep.value (.bool false) (fun u w hd => wanted_on 29 103 false rfl rfl (congrArg some (hd.get 2 _ rfl rfl))) (fun _ _ => rfl) (fun _ => rfl) (fun u w hW hC (hd : After _ _ u w) ρ hρ => ?_)) ?_
              · have r105 : ρ (.tmp 105) = .bool false := (by rw [hρ]; exact hd.get 0 _ rfl rfl); have r107 : ρ (.tmp 107) = undef := (by rw [hρ]; exact hd.get 1 _ rfl rfl); have rc : ∀ v, ρ (.const v) = v := (by subst hρ; exact fun _ => rfl); clear hρ hd
                (go_simp; (try (first | exact wrap_in _ (by omega) (by omega) | omega)))
              refine FSteps.cons (FStep.value (.bool false) (fun _ _ _ => wanted_none rfl) (fun _ _ => rfl) (fun _ => rfl) (fun u w hW hC (hd : After _ _ u w) ρ hρ => ?_)) ?_
              · have r103 : ρ (.tmp 103) = .bool false := (by rw [hρ]; exact hd.get 0 _ rfl rfl); have r108 : ρ (.tmp 108) = .bool false := (by rw [hρ]; exact hd.get 1 _ rfl rfl); have rc : ∀ v, ρ (.const v) = v := (by subst hρ; exact fun _ => rfl); clear hρ hd
                (go_simp; (try (first | exact wrap_in _ (by omega) (by omega) | omega)))
              refine FSteps.cons (FStep.value (.bool false) (fun _ _ _ => wanted_none rfl) (fun _ _ => rfl) (fun _ => rfl) (fun u w hW hC (hd : After _ _ u w) ρ hρ => ?_)) ?_
              · have r109 : ρ (.tmp 109) = .bool false := (by rw [hρ]; exact hd.get 0 _ rfl rfl); clear hρ hd
                (go_simp; (try (first | exact wrap_in _ (by omega) (by omega) | omega)))
              refine FSteps.cons (FStep.value (.pointer (some ⟨b3, 0, none⟩)) (fun u w hd => wanted_on 36 110 false rfl rfl (congrArg some (hd.get 0 _ rfl rfl))) (fun _ _ => rfl) (fun _ => rfl) (fun u w hW hC (hd : After _ _ u w) ρ hρ => ?_)) ?_
              · have r3 : ρ (.tmp 3) = .pointer (some ⟨b3, 0, none⟩) := (by subst hρ; rfl); clear hρ hd
                (go_simp; (try (first | exact wrap_in _ (by omega) (by omega) | omega)))
              refine FSteps.cons (FStep.value (.slice A N c1) (fun u w hd => wanted_on 36 110 false rfl rfl (congrArg some (hd.get 1 _ rfl rfl))) (fun _ _ => rfl) (fun _ => rfl) (fun u w hW hC (hd : After _ _ u w) ρ hρ => ?_)) ?_
              · have r111 : ρ (.tmp 111) = .pointer (some ⟨b3, 0, none⟩) := (by rw [hρ]; exact hd.get 0 _ rfl rfl); clear hρ hd
                (go_simp; (try (first | exact wrap_in _ (by omega) (by omega) | omega)))
              refine FSteps.cons (FStep.value (.int .i64 ((N : Int))) (fun u w hd => wanted_on 36 110 false rfl rfl (congrArg some (hd.get 1 _ rfl rfl))) (fun _ _ => rfl) (fun _ => rfl) (fun u w hW hC (hd : After _ _ u w) ρ hρ => ?_)) ?_
              · have r112 : ρ (.tmp 112) = .slice A N c1 := (by rw [hρ]; exact hd.get 0 _ rfl rfl); clear hρ hd
                (go_simp; (try (first | exact wrap_in _ (by omega) (by omega) | omega)))
              refine FSteps.cons (FStep.value (.bool true) (fun u w hd => wanted_on 36 110 false rfl rfl (congrArg some (hd.get 1 _ rfl rfl))) (fun _ _ => rfl) (fun _ => rfl) (fun u w hW hC (hd : After _ _ u w) ρ hρ => ?_)) ?_
              · have r113 : ρ (.tmp 113) = .int .i64 ((N : Int)) := (by rw [hρ]; exact hd.get 0 _ rfl rfl); have rc : ∀ v, ρ (.const v) = v := (by subst hρ; exact fun _ => rfl); clear hρ hd
                (go_simp; (try (first | exact wrap_in _ (by omega) (by omega) | omega)))
              refine FSteps.cons (FStep.value (.bool true) (fun u w hd => wanted_on 36 110 false rfl rfl (congrArg some (hd.get 1 _ rfl rfl))) (fun _ _ => rfl) (fun _ => rfl) (fun u w hW hC (hd : After _ _ u w) ρ hρ => ?_)) ?_
              · have r114 : ρ (.tmp 114) = .bool true := (by rw [hρ]; exact hd.get 0 _ rfl rfl); clear hρ hd
                (go_simp; (try (first | exact wrap_in _ (by omega) (by omega) | omega)))
              refine FSteps.cons (FStep.value (.slice A3 Q c3) (fun u w hd => wanted_on 41 115 true rfl rfl (congrArg some (hd.get 0 _ rfl rfl))) (fun _ _ => rfl) (fun _ => rfl) (fun u w hW hC (hd : After _ _ u w) ρ hρ => ?_)) ?_
              · have r10 : ρ (.tmp 10) = .slice A3 Q c3 := (by subst hρ; rfl); clear hρ hd
                (go_simp; (try (first | exact wrap_in _ (by omega) (by omega) | omega)))
              refine FSteps.cons (FStep.value (.int .i64 ((Q : Int))) (fun u w hd => wanted_on 41 115 true rfl rfl (congrArg some (hd.get 1 _ rfl rfl))) (fun _ _ => rfl) (fun _ => rfl) (fun u w hW hC (hd : After _ _ u w) ρ hρ => ?_)) ?_
              · have r116 : ρ (.tmp 116) = .slice A3 Q c3 := (by rw [hρ]; exact hd.get 0 _ rfl rfl); clear hρ hd
                (go_simp; (try (first | exact wrap_in _ (by omega) (by omega) | omega)))
              refine FSteps.cons (FStep.value (.pointer (some ⟨b3, 0, none⟩)) (fun u w hd => wanted_on 41 115 true rfl rfl (congrArg some (hd.get 0 _ rfl rfl))) (fun _ _ => rfl) (fun _ => rfl) (fun u w hW hC (hd : After _ _ u w) ρ hρ => ?_)) ?_
              · have r3 : ρ (.tmp 3) = .pointer (some ⟨b3, 0, none⟩) := (by subst hρ; rfl); clear hρ hd
                (go_simp; (try (first | exact wrap_in _ (by omega) (by omega) | omega)))
              refine FSteps.cons (FStep.value (.slice A N c1) (fun u w hd => wanted_on 41 115 true rfl rfl (congrArg some (hd.get 1 _ rfl rfl))) (fun _ _ => rfl) (fun _ => rfl) (fun u w hW hC (hd : After _ _ u w) ρ hρ => ?_)) ?_
              · have r118 : ρ (.tmp 118) = .pointer (some ⟨b3, 0, none⟩) := (by rw [hρ]; exact hd.get 0 _ rfl rfl); clear hρ hd
                (go_simp; (try (first | exact wrap_in _ (by omega) (by omega) | omega)))
              refine FSteps.cons (FStep.value (.int .i64 ((N : Int))) (fun u w hd => wanted_on 41 115 true rfl rfl (congrArg some (hd.get 1 _ rfl rfl))) (fun _ _ => rfl) (fun _ => rfl) (fun u w hW hC (hd : After _ _ u w) ρ hρ => ?_)) ?_
              · have r119 : ρ (.tmp 119) = .slice A N c1 := (by rw [hρ]; exact hd.get 0 _ rfl rfl); clear hρ hd
                (go_simp; (try (first | exact wrap_in _ (by omega) (by omega) | omega)))
              refine FSteps.cons (FStep.value (.int .i64 ((N : Int) - 3)) (fun u w hd => wanted_on 41 115 true rfl rfl (congrArg some (hd.get 1 _ rfl rfl))) (fun _ _ => rfl) (fun _ => rfl) (fun u w hW hC (hd : After _ _ u w) ρ hρ => ?_)) ?_
              · have r120 : ρ (.tmp 120) = .int .i64 ((N : Int)) := (by rw [hρ]; exact hd.get 0 _ rfl rfl); have rc : ∀ v, ρ (.const v) = v := (by subst hρ; exact fun _ => rfl); clear hρ hd
                (go_simp; (try (first | exact wrap_in _ (by omega) (by omega) | omega)))
              refine FSteps.cons (FStep.value (.bool false) (fun u w hd => wanted_on 41 115 true rfl rfl (congrArg some (hd.get 2 _ rfl rfl))) (fun _ _ => rfl) (fun _ => rfl) (fun u w hW hC (hd : After _ _ u w) ρ hρ => ?_)) ?_
              · have r117 : ρ (.tmp 117) = .int .i64 ((Q : Int)) := (by rw [hρ]; exact hd.get 0 _ rfl rfl); have r121 : ρ (.tmp 121) = .int .i64 ((N : Int) - 3) := (by rw [hρ]; exact hd.get 1 _ rfl rfl); clear hρ hd
                (go_simp; (try (first | exact wrap_in _ (by omega) (by omega) | omega)))
              refine FSteps.cons (FStep.value (.bool false) (fun u w hd => wanted_on 36 110 false rfl rfl (congrArg some (hd.get 2 _ rfl rfl))) (fun _ _ => rfl) (fun _ => rfl) (fun u w hW hC (hd : After _ _ u w) ρ hρ => ?_)) ?_
              · have r115 : ρ (.tmp 115) = .bool true := (by rw [hρ]; exact hd.get 0 _ rfl rfl); have r122 : ρ (.tmp 122) = .bool false := (by rw [hρ]; exact hd.get 1 _ rfl rfl); have rc : ∀ v, ρ (.const v) = v := (by subst hρ; exact fun _ => rfl); clear hρ hd
                (go_simp; (try (first | exact wrap_in _ (by omega) (by omega) | omega)))
              refine FSteps.cons (FStep.value (.bool false) (fun _ _ _ => wanted_none rfl) (fun _ _ => rfl) (fun _ => rfl) (fun u w hW hC (hd : After _ _ u w) ρ hρ => ?_)) ?_
              · have r110 : ρ (.tmp 110) = .bool false := (by rw [hρ]; exact hd.get 0 _ rfl rfl); have r123 : ρ (.tmp 123) = .bool false := (by rw [hρ]; exact hd.get 1 _ rfl rfl); have rc : ∀ v, ρ (.const v) = v := (by subst hρ; exact fun _ => rfl); clear hρ hd
                (go_simp; (try (first | exact wrap_in _ (by omega) (by omega) | omega)))
              exact FSteps.nil
            case hV1 => (simp only [List.forall_mem_cons]; simp [stable_is])
            case fin1 =>
              intro u w2 hW2 hC2 hd
              have e50 : u 50 = .bool false := AllV.get _ 0 50 u w2 _ hd rfl
              clear hd
              obtain ⟨we, rfl⟩ : ∃ we : World, we = w2 := ⟨_, rfl⟩
              have hx14 := hW2
              simp only [e50]
              clear hC2 hW2
              go_wp2
              refine wp_flow (by kernel_rfl) (by kernel_rfl) (fun u => ⟨#[_, _, u 37, _, _, _, _, _, _, _, _, _, _, _, _, _, _, _, _, _, _, _, _, _, _, _, _, _, _, _, _, _, _, _, _, _, _, _, _, _, _, _, _, _, _, _, _, _, _, _, _, _, _, _, _, _, _, _, _, _, _, _, _, _, _, _, _, _, _, _, _, _, _, _, _, _, _, _, _, _, _, _, _, _, _, _, _, _, _, _, _, _, _, _, _, _, _, _, _, _, _, _, _, _, _, _, _, _, _, _, _, _, _, _, _, _, _, _, _, _, _, _, _, _, _, u 0, u 1, u 2, u 3, u 4, u 5, u 6, u 7, u 8, u 9, u 10, u 11, u 12, u 13, u 14, u 15, u 16, u 17, u 18, u 19, u 20, u 21, u 22, u 23, u 24, u 25, u 26, u 27, u 28, u 29, u 30, u 31, u 32, u 33, u 34, u 35, u 36], _⟩) (fun i => List.getD [_, _, _, _, _, _, _, _, _, _, _, _, _, _, _, _, _, _, _, _, _, _, _, _, _, _, _, _, _, _, _, _, _, _, _, _, _, _] i undef) [is (.bool false), is (.bool true), is (.bool true), is (undef), is (undef), is (undef), is (undef), is (undef), is (undef), is (undef), is (undef), is (undef), is (undef), is (undef), is (undef), is (undef), is (undef), is (undef), is (undef), is (undef), is (undef), is (undef), is (undef), is (undef), is (undef), is (undef), is (undef), is (undef), is (undef), is (undef), is (undef), is (undef), is (undef), is (undef), is (undef), is (undef), is (.bool true), is (.bool true)] (fun w' => w'.cell? ⟨b3, 0, none⟩ = some (.slice A N c1) ∧ b3 < w'.heap.size) _ rfl ?hC2 ?hs2 ?hV2 ?fin2
              case hC2 => exact fun w' hx => (HB1.out w' (hx14.trans hx)).1
              case hs2 =>
                refine FSteps.cons (FStep.value (.bool false) (fun _ _ _ => wanted_none rfl) (fun _ _ => rfl) (fun _ => rfl) (fun u w hW hC (hd : After _ _ u w) ρ hρ => ?_)) ?_
                · have r9 : ρ (.tmp 9) = .bool false := (by subst hρ; rfl); clear hρ hd
                  (go_simp; (try (first | exact wrap_in _ (by omega) (by omega) | omega)))
                refine FSteps.cons (FStep.value (.bool true) (fun _ _ _ => wanted_none rfl) (fun _ _ => rfl) (fun _ => rfl) (fun u w hW hC (hd : After _ _ u w) ρ hρ => ?_)) ?_
                · have r125 : ρ (.tmp 125) = .bool false := (by rw [hρ]; exact hd.get 0 _ rfl rfl); clear hρ hd
                  (go_simp; (try (first | exact wrap_in _ (by omega) (by omega) | omega)))
                refine FSteps.cons (FStep.value (.bool true) (fun _ _ _ => wanted_none rfl) (fun _ _ => rfl) (fun _ => rfl) (fun u w hW hC (hd : After _ _ u w) ρ hρ => ?_)) ?_
                · have r126 : ρ (.tmp 126) = .bool true := (by rw [hρ]; exact hd.get 0 _ rfl rfl); clear hρ hd
                  (go_simp; (try (first | exact wrap_in _ (by omega) (by omega) | omega)))
                refine FSteps.cons (FStep.off_ 2 127 false rfl rfl (fun u w hd => .inl (congrArg some (After.get (V := vOf _) hd 0 _ rfl rfl))) (fun _ => rfl) (fun _ => rfl)) ?_
                refine FSteps.cons (FStep.off_ 2 127 false rfl rfl (fun u w hd => .inl (congrArg some (After.get (V := vOf _) hd 1 _ rfl rfl))) (fun _ => rfl) (fun _ => rfl)) ?_
                refine FSteps.cons (FStep.off_ 2 127 false rfl rfl (fun u w hd => .inl (congrArg some (After.get (V := vOf _) hd 1 _ rfl rfl))) (fun _ => rfl) (fun _ => rfl)) ?_
                refine FSteps.cons (FStep.off_ 2 127 false rfl rfl (fun u w hd => .inl (congrArg some (After.get (V := vOf _) hd 0 _ rfl rfl))) (fun _ => rfl) (fun _ => rfl)) ?_
                refine FSteps.cons (FStep.off_ 2 127 false rfl rfl (fun u w hd => .inl (congrArg some (After.get (V := vOf _) hd 1 _ rfl rfl))) (fun _ => rfl) (fun _ => rfl)) ?_
                refine FSteps.cons (FStep.off_ 2 127 false rfl rfl (fun u w hd => .inl (congrArg some (After.get (V := vOf _) hd 2 _ rfl rfl))) (fun _ => rfl) (fun _ => rfl)) ?_
                refine FSteps.cons (FStep.off_ 2 127 false rfl rfl (fun u w hd => .inl (congrArg some (After.get (V := vOf _) hd 2 _ rfl rfl))) (fun _ => rfl) (fun _ => rfl)) ?_
                refine FSteps.cons (FStep.off_ 2 127 false rfl rfl (fun u w hd => .inl (congrArg some (After.get (V := vOf _) hd 0 _ rfl rfl))) (fun _ => rfl) (fun _ => rfl)) ?_
                refine FSteps.cons (FStep.off_ 2 127 false rfl rfl (fun u w hd => .inl (congrArg some (After.get (V := vOf _) hd 1 _ rfl rfl))) (fun _ => rfl) (fun _ => rfl)) ?_
                refine FSteps.cons (FStep.off_ 2 127 false rfl rfl (fun u w hd => .inl (congrArg some (After.get (V := vOf _) hd 2 _ rfl rfl))) (fun _ => rfl) (fun _ => rfl)) ?_
                refine FSteps.cons (FStep.off_ 2 127 false rfl rfl (fun u w hd => .inl (congrArg some (After.get (V := vOf _) hd 2 _ rfl rfl))) (fun _ => rfl) (fun _ => rfl)) ?_
                refine FSteps.cons (FStep.off_ 2 127 false rfl rfl (fun u w hd => .inl (congrArg some (After.get (V := vOf _) hd 2 _ rfl rfl))) (fun _ => rfl) (fun _ => rfl)) ?_
                refine FSteps.cons (FStep.off_ 14 139 true rfl rfl (fun u w hd => .inr (congrArg some (After.get (V := vOf _) hd 0 _ rfl rfl))) (fun _ => rfl) (fun _ => rfl)) ?_
                refine FSteps.cons (FStep.off_ 14 139 true rfl rfl (fun u w hd => .inr (congrArg some (After.get (V := vOf _) hd 1 _ rfl rfl))) (fun _ => rfl) (fun _ => rfl)) ?_
                refine FSteps.cons (FStep.off_ 14 139 true rfl rfl (fun u w hd => .inr (congrArg some (After.get (V := vOf _) hd 1 _ rfl rfl))) (fun _ => rfl) (fun _ => rfl)) ?_
                refine FSteps.cons (FStep.off_ 14 139 true rfl rfl (fun u w hd => .inr (congrArg some (After.get (V := vOf _) hd 0 _ rfl rfl))) (fun _ => rfl) (fun _ => rfl)) ?_
                refine FSteps.cons (FStep.off_ 14 139 true rfl rfl (fun u w hd => .inr (congrArg some (After.get (V := vOf _) hd 1 _ rfl rfl))) (fun _ => rfl) (fun _ => rfl)) ?_
                refine FSteps.cons (FStep.off_ 14 139 true rfl rfl (fun u w hd => .inr (congrArg some (After.get (V := vOf _) hd 1 _ rfl rfl))) (fun _ => rfl) (fun _ => rfl)) ?_
                refine FSteps.cons (FStep.off_ 14 139 true rfl rfl (fun u w hd => .inr (congrArg some (After.get (V := vOf _) hd 2 _ rfl rfl))) (fun _ => rfl) (fun _ => rfl)) ?_
                refine FSteps.cons (FStep.off_ 14 139 true rfl rfl (fun u w hd => .inr (congrArg some (After.get (V := vOf _) hd 0 _ rfl rfl))) (fun _ => rfl) (fun _ => rfl)) ?_
                refine FSteps.cons (FStep.off_ 14 139 true rfl rfl (fun u w hd => .inr (congrArg some (After.get (V := vOf _) hd 1 _ rfl rfl))) (fun _ => rfl) (fun _ => rfl)) ?_
                refine FSteps.cons (FStep.off_ 14 139 true rfl rfl (fun u w hd => .inr (congrArg some (After.get (V := vOf _) hd 1 _ rfl rfl))) (fun _ => rfl) (fun _ => rfl)) ?_
                refine FSteps.cons (FStep.off_ 14 139 true rfl rfl (fun u w hd => .inr (congrArg some (After.get (V := vOf _) hd 1 _ rfl rfl))) (fun _ => rfl) (fun _ => rfl)) ?_
                refine FSteps.cons (FStep.off_ 14 139 true rfl rfl (fun u w hd => .inr (congrArg some (After.get (V := vOf _) hd 2 _ rfl rfl))) (fun _ => rfl) (fun _ => rfl)) ?_
                refine FSteps.cons (FStep.off_ 2 127 false rfl rfl (fun u w hd => .inl (congrArg some (After.get (V := vOf _) hd 2 _ rfl rfl))) (fun _ => rfl) (fun _ => rfl)) ?_
                refine FSteps.cons (FStep.off_ 2 127 false rfl rfl (fun u w hd => .inl (congrArg some (After.get (V := vOf _) hd 2 _ rfl rfl))) (fun _ => rfl) (fun _ => rfl)) ?_
                refine FSteps.cons (FStep.off_ 28 153 true rfl rfl (fun u w hd => .inr (congrArg some (After.get (V := vOf _) hd 0 _ rfl rfl))) (fun _ => rfl) (fun _ => rfl)) ?_
                refine FSteps.cons (FStep.off_ 28 153 true rfl rfl (fun u w hd => .inr (congrArg some (After.get (V := vOf _) hd 1 _ rfl rfl))) (fun _ => rfl) (fun _ => rfl)) ?_
                refine FSteps.cons (FStep.off_ 2 127 false rfl rfl (fun u w hd => .inl (congrArg some (After.get (V := vOf _) hd 2 _ rfl rfl))) (fun _ => rfl) (fun _ => rfl)) ?_
                refine FSteps.cons (FStep.off_ 2 127 false rfl rfl (fun u w hd => .inl (congrArg some (After.get (V := vOf _) hd 2 _ rfl rfl))) (fun _ => rfl) (fun _ => rfl)) ?_
                refine FSteps.cons (FStep.off_ 32 157 true rfl rfl (fun u w hd => .inr (congrArg some (After.get (V := vOf _) hd 0 _ rfl rfl))) (fun _ => rfl) (fun _ => rfl)) ?_
                refine FSteps.cons (FStep.off_ 32 157 true rfl rfl (fun u w hd => .inr (congrArg some (After.get (V := vOf _) hd 1 _ rfl rfl))) (fun _ => rfl) (fun _ => rfl)) ?_
                refine FSteps.cons (FStep.off_ 2 127 false rfl rfl (fun u w hd => .inl (congrArg some (After.get (V := vOf _) hd 2 _ rfl rfl))) (fun _ => rfl) (fun _ => rfl)) ?_
                refine FSteps.cons (FStep.value (.bool true) (fun _ _ _ => wanted_none rfl) (fun _ _ => rfl) (fun _ => rfl) (fun u w hW hC (hd : After _ _ u w) ρ hρ => ?_)) ?_
                · have r127 : ρ (.tmp 127) = .bool true := (by rw [hρ]; exact hd.get 0 _ rfl rfl); have r160 : ρ (.tmp 160) = undef := (by rw [hρ]; exact hd.get 1 _ rfl rfl); have rc : ∀ v, ρ (.const v) = v := (by subst hρ; exact fun _ => rfl); clear hρ hd
                  (go_simp; (try (first | exact wrap_in _ (by omega) (by omega) | omega)))
                refine FSteps.cons (FStep.value (.bool true) (fun _ _ _ => wanted_none rfl) (fun _ _ => rfl) (fun _ => rfl) (fun u w hW hC (hd : After _ _ u w) ρ hρ => ?_)) ?_
                · have r161 : ρ (.tmp 161) = .bool true := (by rw [hρ]; exact hd.get 0 _ rfl rfl); clear hρ hd
                  (go_simp; (try (first | exact wrap_in _ (by omega) (by omega) | omega)))
                exact FSteps.nil
              case hV2 => (simp only [List.forall_mem_cons]; simp [stable_is])
              case fin2 =>
                intro u w2 hW2 hC2 hd
                have e37 : u 37 = .bool true := AllV.get _ 0 37 u w2 _ hd rfl
                clear hd
                refine then_normal ?_
                go_step
                refine wp_ret ?_
                refine bodyPost_ret (results_tmp rfl _ _ _) rfl ?_
                exact ⟨congrArg Ending.returned e37, (HX1.out.trans (hx14.trans hW2)).below⟩
          · go_wp2
            refine wp_flow (by kernel_rfl) (by kernel_rfl) (fun u => ⟨#[_, _, _, _, _, _, _, _, _, _, _, _, _, _, _, _, _, _, _, _, _, _, _, _, _, _, _, _, _, _, _, _, _, _, _, _, _, _, _, _, _, _, _, _, _, _, _, _, _, _, _, _, _, _, _, _, _, _, _, _, _, _, _, _, _, _, _, _, _, _, _, _, _, _, u 0, u 1, u 2, u 3, u 4, u 5, u 6, u 7, u 8, u 9, u 10, u 11, u 12, u 13, u 14, u 15, u 16, u 17, u 18, u 19, u 20, u 21, u 22, u 23, u 24, u 25, u 26, u 27, u 28, u 29, u 30, u 31, u 32, u 33, u 34, u 35, u 36, u 37, u 38, u 39, u 40, u 41, u 42, u 43, u 44, u 45, u 46, u 47, u 48, u 49, u 50, _, _, _, _, _, _, _, _, _, _, _, _, _, _, _, _, _, _, _, _, _, _, _, _, _, _, _, _, _, _, _, _, _, _, _, _, _], _⟩) (fun i => List.getD [_, _, _, _, _, _, _, _, _, _, _, _, _, _, _, _, _, _, _, _, _, _, _, _, _, _, _, _, _, _, _, _, _, _, _, _, _, _, _, _, _, _, _, _, _, _, _, _, _, _, _] i undef) [is (.bool false), is (.agg #[.slice A N c1]), is (.int .i64 ((k : Int))), is (.int .i64 ((i : Int))), is (.bool false), is (.bool false), is (.bool false), is (.bool false), is (.bool false), is (.bool false), is (.bool false), is (.bool false), is (.bool false), is (.bool false), is (undef), is (undef), is (undef), is (undef), is (undef), is (undef), is (undef), is (undef), is (undef), is (undef), is (undef), is (undef), is (undef), is (.bool false), is (.bool false), is (.bool false), is (.bool false), is (.bool false), is (undef), is (undef), is (.bool false), is (.bool false), is (.bool false), is (.pointer (some ⟨b3, 0, none⟩)), is (.slice A N c1), is (.int .i64 ((N : Int))), is (.bool false), is (.bool false), is (undef), is (undef), is (undef), is (undef), is (undef), is (undef), is (undef), is (.bool false), is (.bool false)] (fun w' => w'.cell? ⟨b3, 0, none⟩ = some (.slice A N c1) ∧ b3 < w'.heap.size) _ rfl ?hC3 ?hs3 ?hV3 ?fin3
            case hC3 => exact fun w' hx => (HB1.out w' hx).1
            case hs3 =>
              refine FSteps.cons (FStep.value (.bool false) (fun _ _ _ => wanted_none rfl) (fun _ _ => rfl) (fun _ => rfl) (fun u w hW hC (hd : After _ _ u w) ρ hρ => ?_)) ?_
              · have r6 : ρ (.tmp 6) = .bool false := (by subst hρ; rfl); clear hρ hd
                (go_simp; (try (first | exact wrap_in _ (by omega) (by omega) | omega)))
              refine FSteps.cons (FStep.value (.agg #[.slice A N c1]) (fun _ _ _ => wanted_none rfl) (fun _ _ => rfl) (fun _ => rfl) (fun u w hW hC (hd : After _ _ u w) ρ hρ => ?_)) ?_
              · have r3 : ρ (.tmp 3) = .pointer (some ⟨b3, 0, none⟩) := (by subst hρ; rfl); clear hρ hd
                (go_simp; (try (first | exact wrap_in _ (by omega) (by omega) | omega)))
              refine FSteps.cons (FStep.value (.int .i64 ((k : Int))) (fun _ _ _ => wanted_none rfl) (fun _ _ => rfl) (fun _ => rfl) (fun u w hW hC (hd : After _ _ u w) ρ hρ => ?_)) ?_
              · have r5 : ρ (.tmp 5) = .int .i64 ((k : Int)) := (by subst hρ; rfl); clear hρ hd
                (go_simp; (try (first | exact wrap_in _ (by omega) (by omega) | omega)))
              refine FSteps.cons (FStep.value (.int .i64 ((i : Int))) (fun _ _ _ => wanted_none rfl) (fun _ _ => rfl) (fun _ => rfl) (fun u w hW hC (hd : After _ _ u w) ρ hρ => ?_)) ?_
              · have r4 : ρ (.tmp 4) = .int .i64 ((i : Int)) := (by subst hρ; rfl); clear hρ hd
                (go_simp; (try (first | exact wrap_in _ (by omega) (by omega) | omega)))
              refine FSteps.cons (FStep.callC (.bool false) _ #[.agg #[.slice A N c1], .int .i64 ((k : Int)), .int .i64 ((i : Int))] (fun _ _ _ => wanted_none rfl) (fun _ _ => rfl) (fun _ => rfl) (fun u w hW hC (hd : After _ _ u w) ρ hρ => ?_) (fun w hW => IsDiagonal_at A L c1 N k i _ w HLN.out (HR1.out w (by (repeat (first | exact Ext.refl _ | assumption | apply Ext.alloc | apply Ext.drew | apply Ext.drewN | (refine Ext.trans ?_ (by assumption)))))) hn10 HP1.out)) ?_
              · have r75 : ρ (.tmp 75) = .agg #[.slice A N c1] := (by rw [hρ]; exact hd.get 0 _ rfl rfl); have r76 : ρ (.tmp 76) = .int .i64 ((k : Int)) := (by rw [hρ]; exact hd.get 1 _ rfl rfl); have r77 : ρ (.tmp 77) = .int .i64 ((i : Int)) := (by rw [hρ]; exact hd.get 2 _ rfl rfl); have rf : ∀ f, ρ (.func f) = .func (.func f) #[] #[] := (by subst hρ; exact fun _ => rfl); clear hρ hd
                (go_simp; (try (first | exact wrap_in _ (by omega) (by omega) | omega)))
              refine FSteps.cons (FStep.value (.bool false) (fun _ _ _ => wanted_none rfl) (fun _ _ => rfl) (fun _ => rfl) (fun u w hW hC (hd : After _ _ u w) ρ hρ => ?_)) ?_
              · have r74 : ρ (.tmp 74) = .bool false := (by rw [hρ]; exact hd.get 0 _ rfl rfl); have r78 : ρ (.tmp 78) = .bool false := (by rw [hρ]; exact hd.get 1 _ rfl rfl); clear hρ hd
                (go_simp; (try (first | exact wrap_in _ (by omega) (by omega) | omega)))
              refine FSteps.cons (FStep.value (.bool false) (fun _ _ _ => wanted_none rfl) (fun _ _ => rfl) (fun _ => rfl) (fun u w hW hC (hd : After _ _ u w) ρ hρ => ?_)) ?_
              · have r79 : ρ (.tmp 79) = .bool false := (by rw [hρ]; exact hd.get 0 _ rfl rfl); clear hρ hd
                (go_simp; (try (first | exact wrap_in _ (by omega) (by omega) | omega)))
              refine FSteps.cons (FStep.value (.bool false) (fun u w hd => wanted_on 6 80 false rfl rfl (congrArg some (hd.get 0 _ rfl rfl))) (fun _ _ => rfl) (fun _ => rfl) (fun u w hW hC (hd : After _ _ u w) ρ hρ => ?_)) ?_
              · have r11 : ρ (.tmp 11) = .bool false := (by subst hρ; rfl); clear hρ hd
                (go_simp; (try (first | exact wrap_in _ (by omega) (by omega) | omega)))
              refine FSteps.cons (FStep.value (.bool false) (fun u w hd => wanted_on 6 80 false rfl rfl (congrArg some (hd.get 0 _ rfl rfl))) (fun _ _ => rfl) (fun _ => rfl) (fun u w hW hC (hd : After _ _ u w) ρ hρ => ?_)) ?_
              · have r6 : ρ (.tmp 6) = .bool false := (by subst hρ; rfl); clear hρ hd
                (go_simp; (try (first | exact wrap_in _ (by omega) (by omega) | omega)))
              refine FSteps.cons (FStep.value (.bool false) (fun u w hd => wanted_on 6 80 false rfl rfl (congrArg some (hd.get 2 _ rfl rfl))) (fun _ _ => rfl) (fun _ => rfl) (fun u w hW hC (hd : After _ _ u w) ρ hρ => ?_)) ?_
              · have r81 : ρ (.tmp 81) = .bool false := (by rw [hρ]; exact hd.get 0 _ rfl rfl); have r82 : ρ (.tmp 82) = .bool false := (by rw [hρ]; exact hd.get 1 _ rfl rfl); clear hρ hd
                (go_simp; (try (first | exact wrap_in _ (by omega) (by omega) | omega)))
              refine FSteps.cons (FStep.value (.bool false) (fun _ _ _ => wanted_none rfl) (fun _ _ => rfl) (fun _ => rfl) (fun u w hW hC (hd : After _ _ u w) ρ hρ => ?_)) ?_
              · have r80 : ρ (.tmp 80) = .bool false := (by rw [hρ]; exact hd.get 0 _ rfl rfl); have r83 : ρ (.tmp 83) = .bool false := (by rw [hρ]; exact hd.get 1 _ rfl rfl); have rc : ∀ v, ρ (.const v) = v := (by subst hρ; exact fun _ => rfl); clear hρ hd
                (go_simp; (try (first | exact wrap_in _ (by omega) (by omega) | omega)))
              refine FSteps.cons (FStep.value (.bool false) (fun _ _ _ => wanted_none rfl) (fun _ _ => rfl) (fun _ => rfl) (fun u w hW hC (hd : After _ _ u w) ρ hρ => ?_)) ?_
              · have r84 : ρ (.tmp 84) = .bool false := (by rw [hρ]; exact hd.get 0 _ rfl rfl); clear hρ hd
                (go_simp; (try (first | exact wrap_in _ (by omega) (by omega) | omega)))
              refine FSteps.cons (FStep.value (.bool false) (fun u w hd => wanted_on 11 85 false rfl rfl (congrArg some (hd.get 0 _ rfl rfl))) (fun _ _ => rfl) (fun _ => rfl) (fun u w hW hC (hd : After _ _ u w) ρ hρ => ?_)) ?_
              · have r6 : ρ (.tmp 6) = .bool false := (by subst hρ; rfl); clear hρ hd
                (go_simp; (try (first | exact wrap_in _ (by omega) (by omega) | omega)))
              refine FSteps.cons (FStep.value (.bool false) (fun u w hd => wanted_on 11 85 false rfl rfl (congrArg some (hd.get 1 _ rfl rfl))) (fun _ _ => rfl) (fun _ => rfl) (fun u w hW hC (hd : After _ _ u w) ρ hρ => ?_)) ?_
              · have r86 : ρ (.tmp 86) = .bool false := (by rw [hρ]; exact hd.get 0 _ rfl rfl); clear hρ hd
                (go_simp; (try (first | exact wrap_in _ (by omega) (by omega) | omega)))
              refine FSteps.cons (FStep.off_ 13 87 true rfl rfl (fun u w hd => .inl (congrArg some (After.get (V := vOf _) hd 0 _ rfl rfl))) (fun _ => rfl) (fun _ => rfl)) ?_
              refine FSteps.cons (FStep.off_ 13 87 true rfl rfl (fun u w hd => .inl (congrArg some (After.get (V := vOf _) hd 0 _ rfl rfl))) (fun _ => rfl) (fun _ => rfl)) ?_
              refine FSteps.cons (FStep.off_ 13 87 true rfl rfl (fun u w hd => .inl (congrArg some (After.get (V := vOf _) hd 1 _ rfl rfl))) (fun _ => rfl) (fun _ => rfl)) ?_
              refine FSteps.cons (FStep.off_ 13 87 true rfl rfl (fun u w hd => .inl (congrArg some (After.get (V := vOf _) hd 0 _ rfl rfl))) (fun _ => rfl) (fun _ => rfl)) ?_
              refine FSteps.cons (FStep.off_ 13 87 true rfl rfl (fun u w hd => .inl (congrArg some (After.get (V := vOf _) hd 2 _ rfl rfl))) (fun _ => rfl) (fun _ => rfl)) ?_
              refine FSteps.cons (FStep.off_ 13 87 true rfl rfl (fun u w hd => .inl (congrArg some (After.get (V := vOf _) hd 1 _ rfl rfl))) (fun _ => rfl) (fun _ => rfl)) ?_
              refine FSteps.cons (FStep.off_ 13 87 true rfl rfl (fun u w hd => .inl (congrArg some (After.get (V := vOf _) hd 0 _ rfl rfl))) (fun _ => rfl) (fun _ => rfl)) ?_
              refine FSteps.cons (FStep.off_ 13 87 true rfl rfl (fun u w hd => .inl (congrArg some (After.get (V := vOf _) hd 1 _ rfl rfl))) (fun _ => rfl) (fun _ => rfl)) ?_
              refine FSteps.cons (FStep.off_ 13 87 true rfl rfl (fun u w hd => .inl (congrArg some (After.get (V := vOf _) hd 0 _ rfl rfl))) (fun _ => rfl) (fun _ => rfl)) ?_
              refine FSteps.cons (FStep.off_ 13 87 true rfl rfl (fun u w hd => .inl (congrArg some (After.get (V := vOf _) hd 2 _ rfl rfl))) (fun _ => rfl) (fun _ => rfl)) ?_
              refine FSteps.cons (FStep.off_ 13 87 true rfl rfl (fun u w hd => .inl (congrArg some (After.get (V := vOf _) hd 1 _ rfl rfl))) (fun _ => rfl) (fun _ => rfl)) ?_
              refine FSteps.cons (FStep.off_ 13 87 true rfl rfl (fun u w hd => .inl (congrArg some (After.get (V := vOf _) hd 3 _ rfl rfl))) (fun _ => rfl) (fun _ => rfl)) ?_
              refine FSteps.cons (FStep.off_ 13 87 true rfl rfl (fun u w hd => .inl (congrArg some (After.get (V := vOf _) hd 1 _ rfl rfl))) (fun _ => rfl) (fun _ => rfl)) ?_
              refine FSteps.cons (FStep.value (.bool false) (fun u w hd => wanted_on 11 85 false rfl rfl (congrArg some (hd.get 2 _ rfl rfl))) (fun _ _ => rfl) (fun _ => rfl) (fun u w hW hC (hd : After _ _ u w) ρ hρ => ?_)) ?_
              · have r87 : ρ (.tmp 87) = .bool false := (by rw [hρ]; exact hd.get 0 _ rfl rfl); have r100 : ρ (.tmp 100) = undef := (by rw [hρ]; exact hd.get 1 _ rfl rfl); have rc : ∀ v, ρ (.const v) = v := (by subst hρ; exact fun _ => rfl); clear hρ hd
                (go_simp; (try (first | exact wrap_in _ (by omega) (by omega) | omega)))
              refine FSteps.cons (FStep.value (.bool false) (fun _ _ _ => wanted_none rfl) (fun _ _ => rfl) (fun _ => rfl) (fun u w hW hC (hd : After _ _ u w) ρ hρ => ?_)) ?_
              · have r85 : ρ (.tmp 85) = .bool false := (by rw [hρ]; exact hd.get 0 _ rfl rfl); have r101 : ρ (.tmp 101) = .bool false := (by rw [hρ]; exact hd.get 1 _ rfl rfl); have rc : ∀ v, ρ (.const v) = v := (by subst hρ; exact fun _ => rfl); clear hρ hd
                (go_simp; (try (first | exact wrap_in _ (by omega) (by omega) | omega)))
              refine FSteps.cons (FStep.value (.bool false) (fun _ _ _ => wanted_none rfl) (fun _ _ => rfl) (fun _ => rfl) (fun u w hW hC (hd : After _ _ u w) ρ hρ => ?_)) ?_
              · have r102 : ρ (.tmp 102) = .bool false := (by rw [hρ]; exact hd.get 0 _ rfl rfl); clear hρ hd
                (go_simp; (try (first | exact wrap_in _ (by omega) (by omega) | omega)))
              refine FSteps.cons (FStep.value (.bool false) (fun u w hd => wanted_on 29 103 false rfl rfl (congrArg some (hd.get 0 _ rfl rfl))) (fun _ _ => rfl) (fun _ => rfl) (fun u w hW hC (hd : After _ _ u w) ρ hρ => ?_)) ?_
              · have r9 : ρ (.tmp 9) = .bool false := (by subst hρ; rfl); clear hρ hd
                (go_simp; (try (first | exact wrap_in _ (by omega) (by omega) | omega)))
              refine FSteps.cons (FStep.value (.bool false) (fun u w hd => wanted_on 29 103 false rfl rfl (congrArg some (hd.get 1 _ rfl rfl))) (fun _ _ => rfl) (fun _ => rfl) (fun u w hW hC (hd : After _ _ u w) ρ hρ => ?_)) ?_
              · have r104 : ρ (.tmp 104) = .bool false := (by rw [hρ]; exact hd.get 0 _ rfl rfl); clear hρ hd
                (go_simp; (try (first | exact wrap_in _ (by omega) (by omega) | omega)))
              refine FSteps.cons (FStep.off_ 31 105 true rfl rfl (fun u w hd => .inl (congrArg some (After.get (V := vOf _) hd 0 _ rfl rfl))) (fun _ => rfl) (fun _ => rfl)) ?_
              refine FSteps.cons (FStep.off_ 31 105 true rfl rfl (fun u w hd => .inl (congrArg some (After.get (V := vOf _) hd 1 _ rfl rfl))) (fun _ => rfl) (fun _ => rfl)) ?_
              refine FSteps.cons (FStep.value (.bool false) (fun u w hd => wanted_on 29 103 false rfl rfl (congrArg some (hd.get 2 _ rfl rfl))) (fun _ _ => rfl) (fun _ => rfl) (fun u w hW hC (hd : After _ _ u w) ρ hρ => ?_)) ?_
              · have r105 : ρ (.tmp 105) = .bool false := (by rw [hρ]; exact hd.get 0 _ rfl rfl); have r107 : ρ (.tmp 107) = undef := (by rw [hρ]; exact hd.get 1 _ rfl rfl); have rc : ∀ v, ρ (.const v) = v := (by subst hρ; exact fun _ => rfl); clear hρ hd
                (go_simp; (try (first | exact wrap_in _ (by omega) (by omega) | omega)))
              refine FSteps.cons (FStep.value (.bool false) (fun _ _ _ => wanted_none rfl) (fun _ _ => rfl) (fun _ => rfl) (fun u w hW hC (hd : After _ _ u w) ρ hρ => ?_)) ?_
              · have r103 : ρ (.tmp 103) = .bool false := (by rw [hρ]; exact hd.get 0 _ rfl rfl); have r108 : ρ (.tmp 108) = .bool false := (by rw [hρ]; exact hd.get 1 _ rfl rfl); have rc : ∀ v, ρ (.const v) = v := (by subst hρ; exact fun _ => rfl); clear hρ hd
                (go_simp; (try (first | exact wrap_in _ (by omega) (by omega) | omega)))
              refine FSteps.cons (FStep.value (.bool false) (fun _ _ _ => wanted_none rfl) (fun _ _ => rfl) (fun _ => rfl) (fun u w hW hC (hd : After _ _ u w) ρ hρ => ?_)) ?_
              · have r109 : ρ (.tmp 109) = .bool false := (by rw [hρ]; exact hd.get 0 _ rfl rfl); clear hρ hd
                (go_simp; (try (first | exact wrap_in _ (by omega) (by omega) | omega)))
              refine FSteps.cons (FStep.value (.pointer (some ⟨b3, 0, none⟩)) (fun u w hd => wanted_on 36 110 false rfl rfl (congrArg some (hd.get 0 _ rfl rfl))) (fun _ _ => rfl) (fun _ => rfl) (fun u w hW hC (hd : After _ _ u w) ρ hρ => ?_)) ?_
              · have r3 : ρ (.tmp 3) = .pointer (some ⟨b3, 0, none⟩) := (by subst hρ; rfl); clear hρ hd
                (go_simp; (try (first | exact wrap_in _ (by omega) (by omega) | omega)))
              refine FSteps.cons (FStep.value (.slice A N c1) (fun u w hd => wanted_on 36 110 false rfl rfl (congrArg some (hd.get 1 _ rfl rfl))) (fun _ _ => rfl) (fun _ => rfl) (fun u w hW hC (hd : After _ _ u w) ρ hρ => ?_)) ?_
              · have r111 : ρ (.tmp 111) = .pointer (some ⟨b3, 0, none⟩) := (by rw [hρ]; exact hd.get 0 _ rfl rfl); clear hρ hd
                (go_simp; (try (first | exact wrap_in _ (by omega) (by omega) | omega)))
              refine FSteps.cons (FStep.value (.int .i64 ((N : Int))) (fun u w hd => wanted_on 36 110 false rfl rfl (congrArg some (hd.get 1 _ rfl rfl))) (fun _ _ => rfl) (fun _ => rfl) (fun u w hW hC (hd : After _ _ u w) ρ hρ => ?_)) ?_
              · have r112 : ρ (.tmp 112) = .slice A N c1 := (by rw [hρ]; exact hd.get 0 _ rfl rfl); clear hρ hd
                (go_simp; (try (first | exact wrap_in _ (by omega) (by omega) | omega)))
              refine FSteps.cons (FStep.value (.bool false) (fun u w hd => wanted_on 36 110 false rfl rfl (congrArg some (hd.get 1 _ rfl rfl))) (fun _ _ => rfl) (fun _ => rfl) (fun u w hW hC (hd : After _ _ u w) ρ hρ => ?_)) ?_
              · have r113 : ρ (.tmp 113) = .int .i64 ((N : Int)) := (by rw [hρ]; exact hd.get 0 _ rfl rfl); have rc : ∀ v, ρ (.const v) = v := (by subst hρ; exact fun _ => rfl); clear hρ hd
                (go_simp; (try (first | exact wrap_in _ (by omega) (by omega) | omega)))
              refine FSteps.cons (FStep.value (.bool false) (fun u w hd => wanted_on 36 110 false rfl rfl (congrArg some (hd.get 1 _ rfl rfl))) (fun _ _ => rfl) (fun _ => rfl) (fun u w hW hC (hd : After _ _ u w) ρ hρ => ?_)) ?_
              · have r114 : ρ (.tmp 114) = .bool false := (by rw [hρ]; exact hd.get 0 _ rfl rfl); clear hρ hd
                (go_simp; (try (first | exact wrap_in _ (by omega) (by omega) | omega)))
              refine FSteps.cons (FStep.off_ 41 115 true rfl rfl (fun u w hd => .inl (congrArg some (After.get (V := vOf _) hd 0 _ rfl rfl))) (fun _ => rfl) (fun _ => rfl)) ?_
              refine FSteps.cons (FStep.off_ 41 115 true rfl rfl (fun u w hd => .inl (congrArg some (After.get (V := vOf _) hd 1 _ rfl rfl))) (fun _ => rfl) (fun _ => rfl)) ?_
              refine FSteps.cons (FStep.off_ 41 115 true rfl rfl (fun u w hd => .inl (congrArg some (After.get (V := vOf _) hd 0 _ rfl rfl))) (fun _ => rfl) (fun _ => rfl)) ?_
              refine FSteps.cons (FStep.off_ 41 115 true rfl rfl (fun u w hd => .inl (congrArg some (After.get (V := vOf _) hd 1 _ rfl rfl))) (fun _ => rfl) (fun _ => rfl)) ?_
              refine FSteps.cons (FStep.off_ 41 115 true rfl rfl (fun u w hd => .inl (congrArg some (After.get (V := vOf _) hd 1 _ rfl rfl))) (fun _ => rfl) (fun _ => rfl)) ?_
              refine FSteps.cons (FStep.off_ 41 115 true rfl rfl (fun u w hd => .inl (congrArg some (After.get (V := vOf _) hd 1 _ rfl rfl))) (fun _ => rfl) (fun _ => rfl)) ?_
              refine FSteps.cons (FStep.off_ 41 115 true rfl rfl (fun u w hd => .inl (congrArg some (After.get (V := vOf _) hd 2 _ rfl rfl))) (fun _ => rfl) (fun _ => rfl)) ?_
              refine FSteps.cons (FStep.value (.bool false) (fun u w hd => wanted_on 36 110 false rfl rfl (congrArg some (hd.get 2 _ rfl rfl))) (fun _ _ => rfl) (fun _ => rfl) (fun u w hW hC (hd : After _ _ u w) ρ hρ => ?_)) ?_
              · have r115 : ρ (.tmp 115) = .bool false := (by rw [hρ]; exact hd.get 0 _ rfl rfl); have r122 : ρ (.tmp 122) = undef := (by rw [hρ]; exact hd.get 1 _ rfl rfl); have rc : ∀ v, ρ (.const v) = v := (by subst hρ; exact fun _ => rfl); clear hρ hd
                (go_simp; (try (first | exact wrap_in _ (by omega) (by omega) | omega)))
              refine FSteps.cons (FStep.value (.bool false) (fun _ _ _ => wanted_none rfl) (fun _ _ => rfl) (fun _ => rfl) (fun u w hW hC (hd : After _ _ u w) ρ hρ => ?_)) ?_
              · have r110 : ρ (.tmp 110) = .bool false := (by rw [hρ]; exact hd.get 0 _ rfl rfl); have r123 : ρ (.tmp 123) = .bool false := (by rw [hρ]; exact hd.get 1 _ rfl rfl); have rc : ∀ v, ρ (.const v) = v := (by subst hρ; exact fun _ => rfl); clear hρ hd
                (go_simp; (try (first | exact wrap_in _ (by omega) (by omega) | omega)))
              exact FSteps.nil
            case hV3 => (simp only [List.forall_mem_cons]; simp [stable_is])
            case fin3 =>
              intro u w2 hW2 hC2 hd
              have e50 : u 50 = .bool false := AllV.get _ 0 50 u w2 _ hd rfl
              clear hd
              obtain ⟨we, rfl⟩ : ∃ we : World, we = w2 := ⟨_, rfl⟩
              have hx14 := hW2
              simp only [e50]
              clear hC2 hW2
              go_wp2
              refine wp_flow (by kernel_rfl) (by kernel_rfl) (fun u => ⟨#[_, _, u 37, _, _, _, _, _, _, _, _, _, _, _, _, _, _, _, _, _, _, _, _, _, _, _, _, _, _, _, _, _, _, _, _, _, _, _, _, _, _, _, _, _, _, _, _, _, _, _, _, _, _, _, _, _, _, _, _, _, _, _, _, _, _, _, _, _, _, _, _, _, _, _, _, _, _, _, _, _, _, _, _, _, _, _, _, _, _, _, _, _, _, _, _, _, _, _, _, _, _, _, _, _, _, _, _, _, _, _, _, _, _, _, _, _, _, _, _, _, _, _, _, _, _, u 0, u 1, u 2, u 3, u 4, u 5, u 6, u 7, u 8, u 9, u 10, u 11, u 12, u 13, u 14, u 15, u 16, u 17, u 18, u 19, u 20, u 21, u 22, u 23, u 24, u 25, u 26, u 27, u 28, u 29, u 30, u 31, u 32, u 33, u 34, u 35, u 36], _⟩) (fun i => List.getD [_, _, _, _, _, _, _, _, _, _, _, _, _, _, _, _, _, _, _, _, _, _, _, _, _, _, _, _, _, _, _, _, _, _, _, _, _, _] i undef) [is (.bool false), is (.bool true), is (.bool true), is (undef), is (undef), is (undef), is (undef), is (undef), is (undef), is (undef), is (undef), is (undef), is (undef), is (undef), is (undef), is (undef), is (undef), is (undef), is (undef), is (undef), is (undef), is (undef), is (undef), is (undef), is (undef), is (undef), is (undef), is (undef), is (undef), is (undef), is (undef), is (undef), is (undef), is (undef), is (undef), is (undef), is (.bool true), is (.bool true)] (fun w' => w'.cell? ⟨b3, 0, none⟩ = some (.slice A N c1) ∧ b3 < w'.heap.size) _ rfl ?hC4 ?hs4 ?hV4 ?fin4
              case hC4 => exact fun w' hx => (HB1.out w' (hx14.trans hx)).1
              case hs4 =>
                refine FSteps.cons (FStep.value (.bool false) (fun _ _ _ => wanted_none rfl) (fun _ _ => rfl) (fun _ => rfl) (fun u w hW hC (hd : After _ _ u w) ρ hρ => ?_)) ?_
                · have r9 : ρ (.tmp 9) = .bool false := (by subst hρ; rfl); clear hρ hd
                  (go_simp; (try (first | exact wrap_in _ (by omega) (by omega) | omega)))
                refine FSteps.cons (FStep.value (.bool true) (fun _ _ _ => wanted_none rfl) (fun _ _ => rfl) (fun _ => rfl) (fun u w hW hC (hd : After _ _ u w) ρ hρ => ?_)) ?_
                · have r125 : ρ (.tmp 125) = .bool false := (by rw [hρ]; exact hd.get 0 _ rfl rfl); clear hρ hd
                  (go_simp; (try (first | exact wrap_in _ (by omega) (by omega) | omega)))
                refine FSteps.cons (FStep.value (.bool true) (fun _ _ _ => wanted_none rfl) (fun _ _ => rfl) (fun _ => rfl) (fun u w hW hC (hd : After _ _ u w) ρ hρ => ?_)) ?_
                · have r126 : ρ (.tmp 126) = .bool true := (by rw [hρ]; exact hd.get 0 _ rfl rfl); clear hρ hd
                  (go_simp; (try (first | exact wrap_in _ (by omega) (by omega) | omega)))
                refine FSteps.cons (FStep.off_ 2 127 false rfl rfl (fun u w hd => .inl (congrArg some (After.get (V := vOf _) hd 0 _ rfl rfl))) (fun _ => rfl) (fun _ => rfl)) ?_
                refine FSteps.cons (FStep.off_ 2 127 false rfl rfl (fun u w hd => .inl (congrArg some (After.get (V := vOf _) hd 1 _ rfl rfl))) (fun _ => rfl) (fun _ => rfl)) ?_
                refine FSteps.cons (FStep.off_ 2 127 false rfl rfl (fun u w hd => .inl (congrArg some (After.get (V := vOf _) hd 1 _ rfl rfl))) (fun _ => rfl) (fun _ => rfl)) ?_
                refine FSteps.cons (FStep.off_ 2 127 false rfl rfl (fun u w hd => .inl (congrArg some (After.get (V := vOf _) hd 0 _ rfl rfl))) (fun _ => rfl) (fun _ => rfl)) ?_
                refine FSteps.cons (FStep.off_ 2 127 false rfl rfl (fun u w hd => .inl (congrArg some (After.get (V := vOf _) hd 1 _ rfl rfl))) (fun _ => rfl) (fun _ => rfl)) ?_
                refine FSteps.cons (FStep.off_ 2 127 false rfl rfl (fun u w hd => .inl (congrArg some (After.get (V := vOf _) hd 2 _ rfl rfl))) (fun _ => rfl) (fun _ => rfl)) ?_
                refine FSteps.cons (FStep.off_ 2 127 false rfl rfl (fun u w hd => .inl (congrArg some (After.get (V := vOf _) hd 2 _ rfl rfl))) (fun _ => rfl) (fun _ => rfl)) ?_
                refine FSteps.cons (FStep.off_ 2 127 false rfl rfl (fun u w hd => .inl (congrArg some (After.get (V := vOf _) hd 0 _ rfl rfl))) (fun _ => rfl) (fun _ => rfl)) ?_
                refine FSteps.cons (FStep.off_ 2 127 false rfl rfl (fun u w hd => .inl (congrArg some (After.get (V := vOf _) hd 1 _ rfl rfl))) (fun _ => rfl) (fun _ => rfl)) ?_
                refine FSteps.cons (FStep.off_ 2 127 false rfl rfl (fun u w hd => .inl (congrArg some (After.get (V := vOf _) hd 2 _ rfl rfl))) (fun _ => rfl) (fun _ => rfl)) ?_
                refine FSteps.cons (FStep.off_ 2 127 false rfl rfl (fun u w hd => .inl (congrArg some (After.get (V := vOf _) hd 2 _ rfl rfl))) (fun _ => rfl) (fun _ => rfl)) ?_
                refine FSteps.cons (FStep.off_ 2 127 false rfl rfl (fun u w hd => .inl (congrArg some (After.get (V := vOf _) hd 2 _ rfl rfl))) (fun _ => rfl) (fun _ => rfl)) ?_
                refine FSteps.cons (FStep.off_ 14 139 true rfl rfl (fun u w hd => .inr (congrArg some (After.get (V := vOf _) hd 0 _ rfl rfl))) (fun _ => rfl) (fun _ => rfl)) ?_
                refine FSteps.cons (FStep.off_ 14 139 true rfl rfl (fun u w hd => .inr (congrArg some (After.get (V := vOf _) hd 1 _ rfl rfl))) (fun _ => rfl) (fun _ => rfl)) ?_
                refine FSteps.cons (FStep.off_ 14 139 true rfl rfl (fun u w hd => .inr (congrArg some (After.get (V := vOf _) hd 1 _ rfl rfl))) (fun _ => rfl) (fun _ => rfl)) ?_
                refine FSteps.cons (FStep.off_ 14 139 true rfl rfl (fun u w hd => .inr (congrArg some (After.get (V := vOf _) hd 0 _ rfl rfl))) (fun _ => rfl) (fun _ => rfl)) ?_
                refine FSteps.cons (FStep.off_ 14 139 true rfl rfl (fun u w hd => .inr (congrArg some (After.get (V := vOf _) hd 1 _ rfl rfl))) (fun _ => rfl) (fun _ => rfl)) ?_
                refine FSteps.cons (FStep.off_ 14 139 true rfl rfl (fun u w hd => .inr (congrArg some (After.get (V := vOf _) hd 1 _ rfl rfl))) (fun _ => rfl) (fun _ => rfl)) ?_
                refine FSteps.cons (FStep.off_ 14 139 true rfl rfl (fun u w hd => .inr (congrArg some (After.get (V := vOf _) hd 2 _ rfl rfl))) (fun _ => rfl) (fun _ => rfl)) ?_
                refine FSteps.cons (FStep.off_ 14 139 true rfl rfl (fun u w hd => .inr (congrArg some (After.get (V := vOf _) hd 0 _ rfl rfl))) (fun _ => rfl) (fun _ => rfl)) ?_
                refine FSteps.cons (FStep.off_ 14 139 true rfl rfl (fun u w hd => .inr (congrArg some (After.get (V := vOf _) hd 1 _ rfl rfl))) (fun _ => rfl) (fun _ => rfl)) ?_
                refine FSteps.cons (FStep.off_ 14 139 true rfl rfl (fun u w hd => .inr (congrArg some (After.get (V := vOf _) hd 1 _ rfl rfl))) (fun _ => rfl) (fun _ => rfl)) ?_
                refine FSteps.cons (FStep.off_ 14 139 true rfl rfl (fun u w hd => .inr (congrArg some (After.get (V := vOf _) hd 1 _ rfl rfl))) (fun _ => rfl) (fun _ => rfl)) ?_
                refine FSteps.cons (FStep.off_ 14 139 true rfl rfl (fun u w hd => .inr (congrArg some (After.get (V := vOf _) hd 2 _ rfl rfl))) (fun _ => rfl) (fun _ => rfl)) ?_
                refine FSteps.cons (FStep.off_ 2 127 false rfl rfl (fun u w hd => .inl (congrArg some (After.get (V := vOf _) hd 2 _ rfl rfl))) (fun _ => rfl) (fun _ => rfl)) ?_
                refine FSteps.cons (FStep.off_ 2 127 false rfl rfl (fun u w hd => .inl (congrArg some (After.get (V := vOf _) hd 2 _ rfl rfl))) (fun _ => rfl) (fun _ => rfl)) ?_
                refine FSteps.cons (FStep.off_ 28 153 true rfl rfl (fun u w hd => .inr (congrArg some (After.get (V := vOf _) hd 0 _ rfl rfl))) (fun _ => rfl) (fun _ => rfl)) ?_
                refine FSteps.cons (FStep.off_ 28 153 true rfl rfl (fun u w hd => .inr (congrArg some (After.get (V := vOf _) hd 1 _ rfl rfl))) (fun _ => rfl) (fun _ => rfl)) ?_
                refine FSteps.cons (FStep.off_ 2 127 false rfl rfl (fun u w hd => .inl (congrArg some (After.get (V := vOf _) hd 2 _ rfl rfl))) (fun _ => rfl) (fun _ => rfl)) ?_
                refine FSteps.cons (FStep.off_ 2 127 false rfl rfl (fun u w hd => .inl (congrArg some (After.get (V := vOf _) hd 2 _ rfl rfl))) (fun _ => rfl) (fun _ => rfl)) ?_
                refine FSteps.cons (FStep.off_ 32 157 true rfl rfl (fun u w hd => .inr (congrArg some (After.get (V := vOf _) hd 0 _ rfl rfl))) (fun _ => rfl) (fun _ => rfl)) ?_
                refine FSteps.cons (FStep.off_ 32 157 true rfl rfl (fun u w hd => .inr (congrArg some (After.get (V := vOf _) hd 1 _ rfl rfl))) (fun _ => rfl) (fun _ => rfl)) ?_
                refine FSteps.cons (FStep.off_ 2 127 false rfl rfl (fun u w hd => .inl (congrArg some (After.get (V := vOf _) hd 2 _ rfl rfl))) (fun _ => rfl) (fun _ => rfl)) ?_
                refine FSteps.cons (FStep.value (.bool true) (fun _ _ _ => wanted_none rfl) (fun _ _ => rfl) (fun _ => rfl) (fun u w hW hC (hd : After _ _ u w) ρ hρ => ?_)) ?_
                · have r127 : ρ (.tmp 127) = .bool true := (by rw [hρ]; exact hd.get 0 _ rfl rfl); have r160 : ρ (.tmp 160) = undef := (by rw [hρ]; exact hd.get 1 _ rfl rfl); have rc : ∀ v, ρ (.const v) = v := (by subst hρ; exact fun _ => rfl); clear hρ hd
                  (go_simp; (try (first | exact wrap_in _ (by omega) (by omega) | omega)))
                refine FSteps.cons (FStep.value (.bool true) (fun _ _ _ => wanted_none rfl) (fun _ _ => rfl) (fun _ => rfl) (fun u w hW hC (hd : After _ _ u w) ρ hρ => ?_)) ?_
                · have r161 : ρ (.tmp 161) = .bool true := (by rw [hρ]; exact hd.get 0 _ rfl rfl); clear hρ hd
                  (go_simp; (try (first | exact wrap_in _ (by omega) (by omega) | omega)))
                exact FSteps.nil
              case hV4 => (simp only [List.forall_mem_cons]; simp [stable_is])
              case fin4 =>
                intro u w2 hW2 hC2 hd
                have e37 : u 37 = .bool true := AllV.get _ 0 37 u w2 _ hd rfl
                clear hd
                refine then_normal ?_
                go_step
                refine wp_ret ?_
                refine bodyPost_ret (results_tmp rfl _ _ _) rfl ?_
                exact ⟨congrArg Ending.returned e37, (HX1.out.trans (hx14.trans hW2)).below⟩
        · obtain ⟨gA, gO, hgA⟩ := (HR1.out wq (Ext.refl _)).some_ (show 0 < L.length by rw [HLN.out]; omega)
          subst hgA
          obtain ⟨Xi, hXi⟩ : ∃ X, gx L i = X := ⟨_, rfl⟩
          obtain ⟨Yi, hYi⟩ : ∃ X, gy L i = X := ⟨_, rfl⟩
          obtain ⟨Xk, hXk⟩ : ∃ X, gx L k = X := ⟨_, rfl⟩
          obtain ⟨Yk, hYk⟩ : ∃ X, gy L k = X := ⟨_, rfl⟩
          have hse := HP3.out rfl
          rw [hXi, hYi, hXk, hYk] at hse
          have HSE := hide hse
          have HXC := hide (show ∀ w', Ext wq w' → (w'.cell? ⟨b3, 0, none⟩ = some (.slice (some ⟨gA, gO, none⟩) N c1) ∧ b3 < w'.heap.size) ∧ (w'.cell? ⟨gA, gO + i * 2, none⟩ = some (.int .i64 Xi) ∧ w'.cell? ⟨gA, gO + i * 2 + 1, none⟩ = some (.int .i64 Yi) ∧ gA < w'.heap.size) ∧ w'.cell? ⟨gA, gO + k * 2, none⟩ = some (.int .i64 Xk) ∧ w'.cell? ⟨gA, gO + k * 2 + 1, none⟩ = some (.int .i64 Yk) from fun w' hx => by
            have c1 := (HR1.out w' hx).cell (show i < L.length by rw [HLN.out]; exact hi)
            have c2 := (HR1.out w' hx).cell (show k < L.length by rw [HLN.out]; exact hk)
            rw [hXi, hYi] at c1
            rw [hXk, hYk] at c2
            exact ⟨(HB1.out w' hx).1, ⟨c1.2.1, c1.2.2, c1.1⟩, c2.2.1, c2.2.2⟩)
          clear hXi hYi hXk hYk hse
          cases ok
          · by_cases h3 : (3 : Int) < (N : Int)
            · go_wp2
              refine wp_flow (by kernel_rfl) (by kernel_rfl) (fun u => ⟨#[_, _, _, _, _, _, _, _, _, _, _, _, _, _, _, _, _, _, _, _, _, _, _, _, _, _, _, _, _, _, _, _, _, _, _, _, _, _, _, _, _, _, _, _, _, _, _, _, _, _, _, _, _, _, _, _, _, _, _, _, _, _, _, _, _, _, _, _, _, _, _, _, _, _, u 0, u 1, u 2, u 3, u 4, u 5, u 6, u 7, u 8, u 9, u 10, u 11, u 12, u 13, u 14, u 15, u 16, u 17, u 18, u 19, u 20, u 21, u 22, u 23, u 24, u 25, u 26, u 27, u 28, u 29, u 30, u 31, u 32, u 33, u 34, u 35, u 36, u 37, u 38, u 39, u 40, u 41, u 42, u 43, u 44, u 45, u 46, u 47, u 48, u 49, u 50, _, _, _, _, _, _, _, _, _, _, _, _, _, _, _, _, _, _, _, _, _, _, _, _, _, _, _, _, _, _, _, _, _, _, _, _, _], _⟩) (fun i => List.getD [_, _, _, _, _, _, _, _, _, _, _, _, _, _, _, _, _, _, _, _, _, _, _, _, _, _, _, _, _, _, _, _, _, _, _, _, _, _, _, _, _, _, _, _, _, _, _, _, _, _, _] i undef) [is (.bool true), is (.agg #[.slice (some ⟨gA, gO, none⟩) N c1]), is (.int .i64 ((k : Int))), is (.int .i64 ((i : Int))), is (.bool true), is (.bool false), is (.bool false), is (.bool true), is (.bool true), is (.bool false), is (.bool false), is (.bool false), is (.bool true), is (.bool true), is (.agg #[.slice (some ⟨gA, gO, none⟩) N c1]), is (.pointer (some ⟨b3, 0, none⟩)), is (.slice (some ⟨gA, gO, none⟩) N c1), is (.int .i64 ((i : Int))), is (.pointer (some ⟨gA, gO + i * 2, none⟩)), is (.agg #[.int .i64 Xi, .int .i64 Yi]), is (.pointer (some ⟨b3, 0, none⟩)), is (.slice (some ⟨gA, gO, none⟩) N c1), is (.int .i64 ((k : Int))), is (.pointer (some ⟨gA, gO + k * 2, none⟩)), is (.agg #[.int .i64 Xk, .int .i64 Yk]), is (.bool true), is (.bool false), is (.bool false), is (.bool false), is (.bool false), is (.bool false), is (.bool false), is (undef), is (undef), is (.bool false), is (.bool false), is (.bool false), is (.pointer (some ⟨b3, 0, none⟩)), is (.slice (some ⟨gA, gO, none⟩) N c1), is (.int .i64 ((N : Int))), is (.bool true), is (.bool true), is (.slice A3 Q c3), is (.int .i64 ((Q : Int))), is (.pointer (some ⟨b3, 0, none⟩)), is (.slice (some ⟨gA, gO, none⟩) N c1), is (.int .i64 ((N : Int))), is (.int .i64 ((N : Int) - 3)), is (.bool false), is (.bool false), is (.bool false)] (fun w' => (w'.cell? ⟨b3, 0, none⟩ = some (.slice (some ⟨gA, gO, none⟩) N c1) ∧ b3 < w'.heap.size) ∧ (w'.cell? ⟨gA, gO + i * 2, none⟩ = some (.int .i64 Xi) ∧ w'.cell? ⟨gA, gO + i * 2 + 1, none⟩ = some (.int .i64 Yi) ∧ gA < w'.heap.size) ∧ w'.cell? ⟨gA, gO + k * 2, none⟩ = some (.int .i64 Xk) ∧ w'.cell? ⟨gA, gO + k * 2 + 1, none⟩ = some (.int .i64 Yk)) _ rfl ?hC5 ?hs5 ?hV5 ?fin5
              case hC5 => exact fun w' hx => HXC.out w' hx
              case hs5 =>
                refine FSteps.cons (FStep.value (.bool true) (fun _ _ _ => wanted_none rfl) (fun _ _ => rfl) (fun _ => rfl) (fun u w hW hC (hd : After _ _ u w) ρ hρ => ?_)) ?_
                · have r6 : ρ (.tmp 6) = .bool true := (by subst hρ; rfl); clear hρ hd
                  (go_simp; (try (first | exact wrap_in _ (by omega) (by omega) | omega)))
                refine FSteps.cons (FStep.value (.agg #[.slice (some ⟨gA, gO, none⟩) N c1]) (fun _ _ _ => wanted_none rfl) (fun _ _ => rfl) (fun _ => rfl) (fun u w hW hC (hd : After _ _ u w) ρ hρ => ?_)) ?_
                · have r3 : ρ (.tmp 3) = .pointer (some ⟨b3, 0, none⟩) := (by subst hρ; rfl); clear hρ hd
                  (go_simp; (try (first | exact wrap_in _ (by omega) (by omega) | omega)))
                refine FSteps.cons (FStep.value (.int .i64 ((k : Int))) (fun _ _ _ => wanted_none rfl) (fun _ _ => rfl) (fun _ => rfl) (fun u w hW hC (hd : After _ _ u w) ρ hρ => ?_)) ?_
                · have r5 : ρ (.tmp 5) = .int .i64 ((k : Int)) := (by subst hρ; rfl); clear hρ hd
                  (go_simp; (try (first | exact wrap_in _ (by omega) (by omega) | omega)))
                refine FSteps.cons (FStep.value (.int .i64 ((i : Int))) (fun _ _ _ => wanted_none rfl) (fun _ _ => rfl) (fun _ => rfl) (fun u w hW hC (hd : After _ _ u w) ρ hρ => ?_)) ?_
                · have r4 : ρ (.tmp 4) = .int .i64 ((i : Int)) := (by subst hρ; rfl); clear hρ hd
                  (go_simp; (try (first | exact wrap_in _ (by omega) (by omega) | omega)))
                refine FSteps.cons (FStep.callC (.bool true) _ #[.agg #[.slice (some ⟨gA, gO, none⟩) N c1], .int .i64 ((k : Int)), .int .i64 ((i : Int))] (fun _ _ _ => wanted_none rfl) (fun _ _ => rfl) (fun _ => rfl) (fun u w hW hC (hd : After _ _ u w) ρ hρ => ?_) (fun w hW => IsDiagonal_at (some ⟨gA, gO, none⟩) L c1 N k i _ w HLN.out (HR1.out w (by (repeat (first | exact Ext.refl _ | assumption | apply Ext.alloc | apply Ext.drew | apply Ext.drewN | (refine Ext.trans ?_ (by assumption)))))) hn10 HP1.out)) ?_
                · have r75 : ρ (.tmp 75) = .agg #[.slice (some ⟨gA, gO, none⟩) N c1] := (by rw [hρ]; exact hd.get 0 _ rfl rfl); have r76 : ρ (.tmp 76) = .int .i64 ((k : Int)) := (by rw [hρ]; exact hd.get 1 _ rfl rfl); have r77 : ρ (.tmp 77) = .int .i64 ((i : Int)) := (by rw [hρ]; exact hd.get 2 _ rfl rfl); have rf : ∀ f, ρ (.func f) = .func (.func f) #[] #[] := (by subst hρ; exact fun _ => rfl); clear hρ hd
                  (go_simp; (try (first | exact wrap_in _ (by omega) (by omega) | omega)))
                refine FSteps.cons (FStep.value (.bool false) (fun _ _ _ => wanted_none rfl) (fun _ _ => rfl) (fun _ => rfl) (fun u w hW hC (hd : After _ _ u w) ρ hρ => ?_)) ?_
                · have r74 : ρ (.tmp 74) = .bool true := (by rw [hρ]; exact hd.get 0 _ rfl rfl); have r78 : ρ (.tmp 78) = .bool true := (by rw [hρ]; exact hd.get 1 _ rfl rfl); clear hρ hd
                  (go_simp; (try (first | exact wrap_in _ (by omega) (by omega) | omega)))
                refine FSteps.cons (FStep.value (.bool false) (fun _ _ _ => wanted_none rfl) (fun _ _ => rfl) (fun _ => rfl) (fun u w hW hC (hd : After _ _ u w) ρ hρ => ?_)) ?_
                · have r79 : ρ (.tmp 79) = .bool false := (by rw [hρ]; exact hd.get 0 _ rfl rfl); clear hρ hd
                  (go_simp; (try (first | exact wrap_in _ (by omega) (by omega) | omega)))
                refine FSteps.cons (FStep.value (.bool true) (fun u w hd => wanted_on 6 80 false rfl rfl (congrArg some (hd.get 0 _ rfl rfl))) (fun _ _ => rfl) (fun _ => rfl) (fun u w hW hC (hd : After _ _ u w) ρ hρ => ?_)) ?_
                · have r11 : ρ (.tmp 11) = .bool true := (by subst hρ; rfl); clear hρ hd
                  (go_simp; (try (first | exact wrap_in _ (by omega) (by omega) | omega)))
                refine FSteps.cons (FStep.value (.bool true) (fun u w hd => wanted_on 6 80 false rfl rfl (congrArg some (hd.get 0 _ rfl rfl))) (fun _ _ => rfl) (fun _ => rfl) (fun u w hW hC (hd : After _ _ u w) ρ hρ => ?_)) ?_
                · have r6 : ρ (.tmp 6) = .bool true := (by subst hρ; rfl); clear hρ hd
                  (go_simp; (try (first | exact wrap_in _ (by omega) (by omega) | omega)))
                refine FSteps.cons (FStep.value (.bool false) (fun u w hd => wanted_on 6 80 false rfl rfl (congrArg some (hd.get 2 _ rfl rfl))) (fun _ _ => rfl) (fun _ => rfl) (fun u w hW hC (hd : After _ _ u w) ρ hρ => ?_)) ?_
                · have r81 : ρ (.tmp 81) = .bool true := (by rw [hρ]; exact hd.get 0 _ rfl rfl); have r82 : ρ (.tmp 82) = .bool true := (by rw [hρ]; exact hd.get 1 _ rfl rfl); clear hρ hd
                  (go_simp; (try (first | exact wrap_in _ (by omega) (by omega) | omega)))
                refine FSteps.cons (FStep.value (.bool false) (fun _ _ _ => wanted_none rfl) (fun _ _ => rfl) (fun _ => rfl) (fun u w hW hC (hd : After _ _ u w) ρ hρ => ?_)) ?_
                · have r80 : ρ (.tmp 80) = .bool false := (by rw [hρ]; exact hd.get 0 _ rfl rfl); have r83 : ρ (.tmp 83) = .bool false := (by rw [hρ]; exact hd.get 1 _ rfl rfl); have rc : ∀ v, ρ (.const v) = v := (by subst hρ; exact fun _ => rfl); clear hρ hd
                  (go_simp; (try (first | exact wrap_in _ (by omega) (by omega) | omega)))
                refine FSteps.cons (FStep.value (.bool false) (fun _ _ _ => wanted_none rfl) (fun _ _ => rfl) (fun _ => rfl) (fun u w hW hC (hd : After _ _ u w) ρ hρ => ?_)) ?_
                · have r84 : ρ (.tmp 84) = .bool false := (by rw [hρ]; exact hd.get 0 _ rfl rfl); clear hρ hd
                  (go_simp; (try (first | exact wrap_in _ (by omega) (by omega) | omega)))
                refine FSteps.cons (FStep.value (.bool true) (fun u w hd => wanted_on 11 85 false rfl rfl (congrArg some (hd.get 0 _ rfl rfl))) (fun _ _ => rfl) (fun _ => rfl) (fun u w hW hC (hd : After _ _ u w) ρ hρ => ?_)) ?_
                · have r6 : ρ (.tmp 6) = .bool true := (by subst hρ; rfl); clear hρ hd
                  (go_simp; (try (first | exact wrap_in _ (by omega) (by omega) | omega)))
                refine FSteps.cons (FStep.value (.bool true) (fun u w hd => wanted_on 11 85 false rfl rfl (congrArg some (hd.get 1 _ rfl rfl))) (fun _ _ => rfl) (fun _ => rfl) (fun u w hW hC (hd : After _ _ u w) ρ hρ => ?_)) ?_
                · have r86 : ρ (.tmp 86) = .bool true := (by rw [hρ]; exact hd.get 0 _ rfl rfl); clear hρ hd
                  (go_simp; (try (first | exact wrap_in _ (by omega) (by omega) | omega)))
                refine FSteps.cons (FStep.value (.agg #[.slice (some ⟨gA, gO, none⟩) N c1]) (fun u w hd => wanted_on 13 87 true rfl rfl (congrArg some (hd.get 0 _ rfl rfl))) (fun _ _ => rfl) (fun _ => rfl) (fun u w hW hC (hd : After _ _ u w) ρ hρ => ?_)) ?_
                · have r3 : ρ (.tmp 3) = .pointer (some ⟨b3, 0, none⟩) := (by subst hρ; rfl); clear hρ hd
                  (go_simp; (try (first | exact wrap_in _ (by omega) (by omega) | omega)))
                refine FSteps.cons (FStep.value (.pointer (some ⟨b3, 0, none⟩)) (fun u w hd => wanted_on 13 87 true rfl rfl (congrArg some (hd.get 0 _ rfl rfl))) (fun _ _ => rfl) (fun _ => rfl) (fun u w hW hC (hd : After _ _ u w) ρ hρ => ?_)) ?_
                · have r3 : ρ (.tmp 3) = .pointer (some ⟨b3, 0, none⟩) := (by subst hρ; rfl); clear hρ hd
                  (go_simp; (try (first | exact wrap_in _ (by omega) (by omega) | omega)))
                refine FSteps.cons (FStep.value (.slice (some ⟨gA, gO, none⟩) N c1) (fun u w hd => wanted_on 13 87 true rfl rfl (congrArg some (hd.get 1 _ rfl rfl))) (fun _ _ => rfl) (fun _ => rfl) (fun u w hW hC (hd : After _ _ u w) ρ hρ => ?_)) ?_
                · have r89 : ρ (.tmp 89) = .pointer (some ⟨b3, 0, none⟩) := (by rw [hρ]; exact hd.get 0 _ rfl rfl); clear hρ hd
                  (go_simp; (try (first | exact wrap_in _ (by omega) (by omega) | omega)))
                refine FSteps.cons (FStep.value (.int .i64 ((i : Int))) (fun u w hd => wanted_on 13 87 true rfl rfl (congrArg some (hd.get 0 _ rfl rfl))) (fun _ _ => rfl) (fun _ => rfl) (fun u w hW hC (hd : After _ _ u w) ρ hρ => ?_)) ?_
                · have r4 : ρ (.tmp 4) = .int .i64 ((i : Int)) := (by subst hρ; rfl); clear hρ hd
                  (go_simp; (try (first | exact wrap_in _ (by omega) (by omega) | omega)))
                refine FSteps.cons (FStep.value (.pointer (some ⟨gA, gO + i * 2, none⟩)) (fun u w hd => wanted_on 13 87 true rfl rfl (congrArg some (hd.get 2 _ rfl rfl))) (fun _ _ => rfl) (fun _ => rfl) (fun u w hW hC (hd : After _ _ u w) ρ hρ => ?_)) ?_
                · have r90 : ρ (.tmp 90) = .slice (some ⟨gA, gO, none⟩) N c1 := (by rw [hρ]; exact hd.get 0 _ rfl rfl); have r91 : ρ (.tmp 91) = .int .i64 ((i : Int)) := (by rw [hρ]; exact hd.get 1 _ rfl rfl); clear hρ hd
                  (go_simp; (try (first | exact wrap_in _ (by omega) (by omega) | omega)))
                refine FSteps.cons (FStep.value (.agg #[.int .i64 Xi, .int .i64 Yi]) (fun u w hd => wanted_on 13 87 true rfl rfl (congrArg some (hd.get 1 _ rfl rfl))) (fun _ _ => rfl) (fun _ => rfl) (fun u w hW hC (hd : After _ _ u w) ρ hρ => ?_)) ?_
                · have r92 : ρ (.tmp 92) = .pointer (some ⟨gA, gO + i * 2, none⟩) := (by rw [hρ]; exact hd.get 0 _ rfl rfl); clear hρ hd
                  (go_simp; (try (first | exact wrap_in _ (by omega) (by omega) | omega)))
                refine FSteps.cons (FStep.value (.pointer (some ⟨b3, 0, none⟩)) (fun u w hd => wanted_on 13 87 true rfl rfl (congrArg some (hd.get 0 _ rfl rfl))) (fun _ _ => rfl) (fun _ => rfl) (fun u w hW hC (hd : After _ _ u w) ρ hρ => ?_)) ?_
                · have r3 : ρ (.tmp 3) = .pointer (some ⟨b3, 0, none⟩) := (by subst hρ; rfl); clear hρ hd
                  (go_simp; (try (first | exact wrap_in _ (by omega) (by omega) | omega)))
                refine FSteps.cons (FStep.value (.slice (some ⟨gA, gO, none⟩) N c1) (fun u w hd => wanted_on 13 87 true rfl rfl (congrArg some (hd.get 1 _ rfl rfl))) (fun _ _ => rfl) (fun _ => rfl) (fun u w hW hC (hd : After _ _ u w) ρ hρ => ?_)) ?_
                · have r94 : ρ (.tmp 94) = .pointer (some ⟨b3, 0, none⟩) := (by rw [hρ]; exact hd.get 0 _ rfl rfl); clear hρ hd
                  (go_simp; (try (first | exact wrap_in _ (by omega) (by omega) | omega)))
                refine FSteps.cons (FStep.value (.int .i64 ((k : Int))) (fun u w hd => wanted_on 13 87 true rfl rfl (congrArg some (hd.get 0 _ rfl rfl))) (fun _ _ => rfl) (fun _ => rfl) (fun u w hW hC (hd : After _ _ u w) ρ hρ => ?_)) ?_
                · have r5 : ρ (.tmp 5) = .int .i64 ((k : Int)) := (by subst hρ; rfl); clear hρ hd
                  (go_simp; (try (first | exact wrap_in _ (by omega) (by omega) | omega)))
                refine FSteps.cons (FStep.value (.pointer (some ⟨gA, gO + k * 2, none⟩)) (fun u w hd => wanted_on 13 87 true rfl rfl (congrArg some (hd.get 2 _ rfl rfl))) (fun _ _ => rfl) (fun _ => rfl) (fun u w hW hC (hd : After _ _ u w) ρ hρ => ?_)) ?_
                · have r95 : ρ (.tmp 95) = .slice (some ⟨gA, gO, none⟩) N c1 := (by rw [hρ]; exact hd.get 0 _ rfl rfl); have r96 : ρ (.tmp 96) = .int .i64 ((k : Int)) := (by rw [hρ]; exact hd.get 1 _ rfl rfl); clear hρ hd
                  (go_simp; (try (first | exact wrap_in _ (by omega) (by omega) | omega)))
                refine FSteps.cons (FStep.value (.agg #[.int .i64 Xk, .int .i64 Yk]) (fun u w hd => wanted_on 13 87 true rfl rfl (congrArg some (hd.get 1 _ rfl rfl))) (fun _ _ => rfl) (fun _ => rfl) (fun u w hW hC (hd : After _ _ u w) ρ hρ => ?_)) ?_
                · have r97 : ρ (.tmp 97) = .pointer (some ⟨gA, gO + k * 2, none⟩) := (by rw [hρ]; exact hd.get 0 _ rfl rfl); clear hρ hd
                  (go_simp; (try (first | exact wrap_in _ (by omega) (by omega) | omega)))
                refine FSteps.cons (FStep.callC (.bool true) _ #[.agg #[.slice (some ⟨gA, gO, none⟩) N c1], .agg #[.int .i64 Xi, .int .i64 Yi], .agg #[.int .i64 Xk, .int .i64 Yk]] (fun u w hd => wanted_on 13 87 true rfl rfl (congrArg some (hd.get 3 _ rfl rfl))) (fun _ _ => rfl) (fun _ => rfl) (fun u w hW hC (hd : After _ _ u w) ρ hρ => ?_) (fun w hW => Sees_at (some ⟨gA, gO, none⟩) L c1 N Xi Yi Xk Yk _ w HLN.out (HR1.out w (by (repeat (first | exact Ext.refl _ | assumption | apply Ext.alloc | apply Ext.drew | apply Ext.drewN | (refine Ext.trans ?_ (by assumption)))))) hn10 HSE.out)) ?_
                · have r88 : ρ (.tmp 88) = .agg #[.slice (some ⟨gA, gO, none⟩) N c1] := (by rw [hρ]; exact hd.get 0 _ rfl rfl); have r93 : ρ (.tmp 93) = .agg #[.int .i64 Xi, .int .i64 Yi] := (by rw [hρ]; exact hd.get 1 _ rfl rfl); have r98 : ρ (.tmp 98) = .agg #[.int .i64 Xk, .int .i64 Yk] := (by rw [hρ]; exact hd.get 2 _ rfl rfl); have rf : ∀ f, ρ (.func f) = .func (.func f) #[] #[] := (by subst hρ; exact fun _ => rfl); clear hρ hd
                  (go_simp; (try (first | exact wrap_in _ (by omega) (by omega) | omega)))
                refine FSteps.cons (FStep.value (.bool false) (fun u w hd => wanted_on 13 87 true rfl rfl (congrArg some (hd.get 1 _ rfl rfl))) (fun _ _ => rfl) (fun _ => rfl) (fun u w hW hC (hd : After _ _ u w) ρ hρ => ?_)) ?_
                · have r99 : ρ (.tmp 99) = .bool true := (by rw [hρ]; exact hd.get 0 _ rfl rfl); clear hρ hd
                  (go_simp; (try (first | exact wrap_in _ (by omega) (by omega) | omega)))
                refine FSteps.cons (FStep.value (.bool false) (fun u w hd => wanted_on 11 85 false rfl rfl (congrArg some (hd.get 2 _ rfl rfl))) (fun _ _ => rfl) (fun _ => rfl) (fun u w hW hC (hd : After _ _ u w) ρ hρ => ?_)) ?_
                · have r87 : ρ (.tmp 87) = .bool true := (by rw [hρ]; exact hd.get 0 _ rfl rfl); have r100 : ρ (.tmp 100) = .bool false := (by rw [hρ]; exact hd.get 1 _ rfl rfl); have rc : ∀ v, ρ (.const v) = v := (by subst hρ; exact fun _ => rfl); clear hρ hd
                  (go_simp; (try (first | exact wrap_in _ (by omega) (by omega) | omega)))
                refine FSteps.cons (FStep.value (.bool false) (fun _ _ _ => wanted_none rfl) (fun _ _ => rfl) (fun _ => rfl) (fun u w hW hC (hd : After _ _ u w) ρ hρ => ?_)) ?_
                · have r85 : ρ (.tmp 85) = .bool false := (by rw [hρ]; exact hd.get 0 _ rfl rfl); have r101 : ρ (.tmp 101) = .bool false := (by rw [hρ]; exact hd.get 1 _ rfl rfl); have rc : ∀ v, ρ (.const v) = v := (by subst hρ; exact fun _ => rfl); clear hρ hd
                  (go_simp; (try (first | exact wrap_in _ (by omega) (by omega) | omega)))
                refine FSteps.cons (FStep.value (.bool false) (fun _ _ _ => wanted_none rfl) (fun _ _ => rfl) (fun _ => rfl) (fun u w hW hC (hd : After _ _ u w) ρ hρ => ?_)) ?_
                · have r102 : ρ (.tmp 102) = .bool false := (by rw [hρ]; exact hd.get 0 _ rfl rfl); clear hρ hd
                  (go_simp; (try (first | exact wrap_in _ (by omega) (by omega) | omega)))
                refine FSteps.cons (FStep.value (.bool false) (fun u w hd => wanted_on 29 103 false rfl rfl (congrArg some (hd.get 0 _ rfl rfl))) (fun _ _ => rfl) (fun _ => rfl) (fun u w hW hC (hd : After _ _ u w) ρ hρ => ?_)) ?_
                · have r9 : ρ (.tmp 9) = .bool false := (by subst hρ; rfl); clear hρ hd
                  (go_simp; (try (first | exact wrap_in _ (by omega) (by omega) | omega)))
                refine FSteps.cons (FStep.value (.bool false) (fun u w hd => wanted_on 29 103 false rfl rfl (congrArg some (hd.get 1 _ rfl rfl))) (fun _ _ => rfl) (fun _ => rfl) (fun u w hW hC (hd : After _ _ u w) ρ hρ => ?_)) ?_
                · have r104 : ρ (.tmp 104) = .bool false := (by rw [hρ]; exact hd.get 0 _ rfl rfl); clear hρ hd
                  (go_simp; (try (first | exact wrap_in _ (by omega) (by omega) | omega)))
                refine FSteps.cons (FStep.off_ 31 105 true rfl rfl (fun u w hd => .inl (congrArg some (After.get (V := vOf _) hd 0 _ rfl rfl))) (fun _ => rfl) (fun _ => rfl)) ?_
                refine FSteps.cons (FStep.off_ 31 105 true rfl rfl (fun u w hd => .inl (congrArg some (After.get (V := vOf _) hd 1 _ rfl rfl))) (fun _ => rfl) (fun _ => rfl)) ?_
                refine FSteps.cons (FStep.value (.bool false) (fun u w hd => wanted_on 29 103 false rfl rfl (congrArg some (hd.get 2 _ rfl rfl))) (fun _ _ => rfl) (fun _ => rfl) (fun u w hW hC (hd : After _ _ u w) ρ hρ => ?_)) ?_
                · have r105 : ρ (.tmp 105) = .bool false := (by rw [hρ]; exact hd.get 0 _ rfl rfl); have r107 : ρ (.tmp 107) = undef := (by rw [hρ]; exact hd.get 1 _ rfl rfl); have rc : ∀ v, ρ (.const v) = v := (by subst hρ; exact fun _ => rfl); clear hρ hd
                  (go_simp; (try (first | exact wrap_in _ (by omega) (by omega) | omega)))
                refine FSteps.cons (FStep.value (.bool false) (fun _ _ _ => wanted_none rfl) (fun _ _ => rfl) (fun _ => rfl) (fun u w hW hC (hd : After _ _ u w) ρ hρ => ?_)) ?_
                · have r103 : ρ (.tmp 103) = .bool false := (by rw [hρ]; exact hd.get 0 _ rfl rfl); have r108 : ρ (.tmp 108) = .bool false := (by rw [hρ]; exact hd.get 1 _ rfl rfl); have rc : ∀ v, ρ (.const v) = v := (by subst hρ; exact fun _ => rfl); clear hρ hd
                  (go_simp; (try (first | exact wrap_in _ (by omega) (by omega) | omega)))
                refine FSteps.cons (FStep.value (.bool false) (fun _ _ _ => wanted_none rfl) (fun _ _ => rfl) (fun _ => rfl) (fun u w hW hC (hd : After _ _ u w) ρ hρ => ?_)) ?_
                · have r109 : ρ (.tmp 109) = .bool false := (by rw [hρ]; exact hd.get 0 _ rfl rfl); clear hρ hd
                  (go_simp; (try (first | exact wrap_in _ (by omega) (by omega) | omega)))
                refine FSteps.cons (FStep.value (.pointer (some ⟨b3, 0, none⟩)) (fun u w hd => wanted_on 36 110 false rfl rfl (congrArg some (hd.get 0 _ rfl rfl))) (fun _ _ => rfl) (fun _ => rfl) (fun u w hW hC (hd : After _ _ u w) ρ hρ => ?_)) ?_
                · have r3 : ρ (.tmp 3) = .pointer (some ⟨b3, 0, none⟩) := (by subst hρ; rfl); clear hρ hd
                  (go_simp; (try (first | exact wrap_in _ (by omega) (by omega) | omega)))
                refine FSteps.cons (FStep.value (.slice (some ⟨gA, gO, none⟩) N c1) (fun u w hd => wanted_on 36 110 false rfl rfl (congrArg some (hd.get 1 _ rfl rfl))) (fun _ _ => rfl) (fun _ => rfl) (fun u w hW hC (hd : After _ _ u w) ρ hρ => ?_)) ?_
                · have r111 : ρ (.tmp 111) = .pointer (some ⟨b3, 0, none⟩) := (by rw [hρ]; exact hd.get 0 _ rfl rfl); clear hρ hd
                  (go_simp; (try (first | exact wrap_in _ (by omega) (by omega) | omega)))
                refine FSteps.cons (FStep.value (.int .i64 ((N : Int))) (fun u w hd => wanted_on 36 110 false rfl rfl (congrArg some (hd.get 1 _ rfl rfl))) (fun _ _ => rfl) (fun _ => rfl) (fun u w hW hC (hd : After _ _ u w) ρ hρ => ?_)) ?_
                · have r112 : ρ (.tmp 112) = .slice (some ⟨gA, gO, none⟩) N c1 := (by rw [hρ]; exact hd.get 0 _ rfl rfl); clear hρ hd
                  (go_simp; (try (first | exact wrap_in _ (by omega) (by omega) | omega)))
                refine FSteps.cons (FStep.value (.bool true) (fun u w hd => wanted_on 36 110 false rfl rfl (congrArg some (hd.get 1 _ rfl rfl))) (fun _ _ => rfl) (fun _ => rfl) (fun u w hW hC (hd : After _ _ u w) ρ hρ => ?_)) ?_
                · have r113 : ρ (.tmp 113) = .int .i64 ((N : Int)) := (by rw [hρ]; exact hd.get 0 _ rfl rfl); have rc : ∀ v, ρ (.const v) = v := (by subst hρ; exact fun _ => rfl); clear hρ hd
                  (go_simp; (try (first | exact wrap_in _ (by omega) (by omega) | omega)))
                refine FSteps.cons (FStep.value (.bool true) (fun u w hd => wanted_on 36 110 false rfl rfl (congrArg some (hd.get 1 _ rfl rfl))) (fun _ _ => rfl) (fun _ => rfl) (fun u w hW hC (hd : After _ _ u w) ρ hρ => ?_)) ?_
                · have r114 : ρ (.tmp 114) = .bool true := (by rw [hρ]; exact hd.get 0 _ rfl rfl); clear hρ hd
                  (go_simp; (try (first | exact wrap_in _ (by omega) (by omega) | omega)))
                refine FSteps.cons (FStep.value (.slice A3 Q c3) (fun u w hd => wanted_on 41 115 true rfl rfl (congrArg some (hd.get 0 _ rfl rfl))) (fun _ _ => rfl) (fun _ => rfl) (fun u w hW hC (hd : After _ _ u w) ρ hρ => ?_)) ?_
                · have r10 : ρ (.tmp 10) = .slice A3 Q c3 := (by subst hρ; rfl); clear hρ hd
                  (go_simp; (try (first | exact wrap_in _ (by omega) (by omega) | omega)))
                refine FSteps.cons (FStep.value (.int .i64 ((Q : Int))) (fun u w hd => wanted_on 41 115 true rfl rfl (congrArg some (hd.get 1 _ rfl rfl))) (fun _ _ => rfl) (fun _ => rfl) (fun u w hW hC (hd : After _ _ u w) ρ hρ => ?_)) ?_
                · have r116 : ρ (.tmp 116) = .slice A3 Q c3 := (by rw [hρ]; exact hd.get 0 _ rfl rfl); clear hρ hd
                  (go_simp; (try (first | exact wrap_in _ (by omega) (by omega) | omega)))
                refine FSteps.cons (FStep.value (.pointer (some ⟨b3, 0, none⟩)) (fun u w hd => wanted_on 41 115 true rfl rfl (congrArg some (hd.get 0 _ rfl rfl))) (fun _ _ => rfl) (fun _ => rfl) (fun u w hW hC (hd : After _ _ u w) ρ hρ => ?_)) ?_
                · have r3 : ρ (.tmp 3) = .pointer (some ⟨b3, 0, none⟩) := (by subst hρ; rfl); clear hρ hd
                  (go_simp; (try (first | exact wrap_in _ (by omega) (by omega) | omega)))
                refine FSteps.cons (FStep.value (.slice (some ⟨gA, gO, none⟩) N c1) (fun u w hd => wanted_on 41 115 true rfl rfl (congrArg some (hd.get 1 _ rfl rfl))) (fun _ _ => rfl) (fun _ => rfl) (fun u w hW hC (hd : After _ _ u w) ρ hρ => ?_)) ?_
                · have r118 : ρ (.tmp 118) = .pointer (some ⟨b3, 0, none⟩) := (by rw [hρ]; exact hd.get 0 _ rfl rfl); clear hρ hd
                  (go_simp; (try (first | exact wrap_in _ (by omega) (by omega) | omega)))
                refine FSteps.cons (FStep.value (.int .i64 ((N : Int))) (fun u w hd => wanted_on 41 115 true rfl rfl (congrArg some (hd.get 1 _ rfl rfl))) (fun _ _ => rfl) (fun _ => rfl) (fun u w hW hC (hd : After _ _ u w) ρ hρ => ?_)) ?_
                · have r119 : ρ (.tmp 119) = .slice (some ⟨gA, gO, none⟩) N c1 := (by rw [hρ]; exact hd.get 0 _ rfl rfl); clear hρ hd
                  (go_simp; (try (first | exact wrap_in _ (by omega) (by omega) | omega)))
                refine FSteps.cons (FStep.value (.int .i64 ((N : Int) - 3)) (fun u w hd => wanted_on 41 115 true rfl rfl (congrArg some (hd.get 1 _ rfl rfl))) (fun _ _ => rfl) (fun _ => rfl) (fun u w hW hC (hd : After _ _ u w) ρ hρ => ?_)) ?_
                · have r120 : ρ (.tmp 120) = .int .i64 ((N : Int)) := (by rw [hρ]; exact hd.get 0 _ rfl rfl); have rc : ∀ v, ρ (.const v) = v := (by subst hρ; exact fun _ => rfl); clear hρ hd
                  (go_simp; (try (first | exact wrap_in _ (by omega) (by omega) | omega)))
                refine FSteps.cons (FStep.value (.bool false) (fun u w hd => wanted_on 41 115 true rfl rfl (congrArg some (hd.get 2 _ rfl rfl))) (fun _ _ => rfl) (fun _ => rfl) (fun u w hW hC (hd : After _ _ u w) ρ hρ => ?_)) ?_
                · have r117 : ρ (.tmp 117) = .int .i64 ((Q : Int)) := (by rw [hρ]; exact hd.get 0 _ rfl rfl); have r121 : ρ (.tmp 121) = .int .i64 ((N : Int) - 3) := (by rw [hρ]; exact hd.get 1 _ rfl rfl); clear hρ hd
                  (go_simp; (try (first | exact wrap_in _ (by omega) (by omega) | omega)))
                refine FSteps.cons (FStep.value (.bool false) (fun u w hd => wanted_on 36 110 false rfl rfl (congrArg some (hd.get 2 _ rfl rfl))) (fun _ _ => rfl) (fun _ => rfl) (fun u w hW hC (hd : After _ _ u w) ρ hρ => ?_)) ?_
                · have r115 : ρ (.tmp 115) = .bool true := (by rw [hρ]; exact hd.get 0 _ rfl rfl); have r122 : ρ (.tmp 122) = .bool false := (by rw [hρ]; exact hd.get 1 _ rfl rfl); have rc : ∀ v, ρ (.const v) = v := (by subst hρ; exact fun _ => rfl); clear hρ hd
                  (go_simp; (try (first | exact wrap_in _ (by omega) (by omega) | omega)))
                refine FSteps.cons (FStep.value (.bool false) (fun _ _ _ => wanted_none rfl) (fun _ _ => rfl) (fun _ => rfl) (fun u w hW hC (hd : After _ _ u w) ρ hρ => ?_)) ?_
                · have r110 : ρ (.tmp 110) = .bool false := (by rw [hρ]; exact hd.get 0 _ rfl rfl); have r123 : ρ (.tmp 123) = .bool false := (by rw [hρ]; exact hd.get 1 _ rfl rfl); have rc : ∀ v, ρ (.const v) = v := (by subst hρ; exact fun _ => rfl); clear hρ hd
                  (go_simp; (try (first | exact wrap_in _ (by omega) (by omega) | omega)))
                exact FSteps.nil
              case hV5 => (simp only [List.forall_mem_cons]; simp [stable_is])
              case fin5 =>
                intro u w2 hW2 hC2 hd
                have e50 : u 50 = .bool false := AllV.get _ 0 50 u w2 _ hd rfl
                clear hd
                obtain ⟨we, rfl⟩ : ∃ we : World, we = w2 := ⟨_, rfl⟩
                have hx14 := hW2
                simp only [e50]
                clear hC2 hW2
                go_wp2
                refine wp_flow (by kernel_rfl) (by kernel_rfl) (fun u => ⟨#[_, _, u 37, _, _, _, _, _, _, _, _, _, _, _, _, _, _, _, _, _, _, _, _, _, _, _, _, _, _, _, _, _, _, _, _, _, _, _, _, _, _, _, _, _, _, _, _, _, _, _, _, _, _, _, _, _, _, _, _, _, _, _, _, _, _, _, _, _, _, _, _, _, _, _, _, _, _, _, _, _, _, _, _, _, _, _, _, _, _, _, _, _, _, _, _, _, _, _, _, _, _, _, _, _, _, _, _, _, _, _, _, _, _, _, _, _, _, _, _, _, _, _, _, _, _, u 0, u 1, u 2, u 3, u 4, u 5, u 6, u 7, u 8, u 9, u 10, u 11, u 12, u 13, u 14, u 15, u 16, u 17, u 18, u 19, u 20, u 21, u 22, u 23, u 24, u 25, u 26, u 27, u 28, u 29, u 30, u 31, u 32, u 33, u 34, u 35, u 36], _⟩) (fun i => List.getD [_, _, _, _, _, _, _, _, _, _, _, _, _, _, _, _, _, _, _, _, _, _, _, _, _, _, _, _, _, _, _, _, _, _, _, _, _, _] i undef) [is (.bool false), is (.bool true), is (.bool true), is (undef), is (undef), is (undef), is (undef), is (undef), is (undef), is (undef), is (undef), is (undef), is (undef), is (undef), is (undef), is (undef), is (undef), is (undef), is (undef), is (undef), is (undef), is (undef), is (undef), is (undef), is (undef), is (undef), is (undef), is (undef), is (undef), is (undef), is (undef), is (undef), is (undef), is (undef), is (undef), is (undef), is (.bool true), is (.bool true)] (fun w' => w'.cell? ⟨b3, 0, none⟩ = some (.slice (some ⟨gA, gO, none⟩) N c1) ∧ b3 < w'.heap.size) _ rfl ?hC6 ?hs6 ?hV6 ?fin6
                case hC6 => exact fun w' hx => (HB1.out w' (hx14.trans hx)).1
                case hs6 =>
                  refine FSteps.cons (FStep.value (.bool false) (fun _ _ _ => wanted_none rfl) (fun _ _ => rfl) (fun _ => rfl) (fun u w hW hC (hd : After _ _ u w) ρ hρ => ?_)) ?_
                  · have r9 : ρ (.tmp 9) = .bool false := (by subst hρ; rfl); clear hρ hd
                    (go_simp; (try (first | exact wrap_in _ (by omega) (by omega) | omega)))
                  refine FSteps.cons (FStep.value (.bool true) (fun _ _ _ => wanted_none rfl) (fun _ _ => rfl) (fun _ => rfl) (fun u w hW hC (hd : After _ _ u w) ρ hρ => ?_)) ?_
                  · have r125 : ρ (.tmp 125) = .bool false := (by rw [hρ]; exact hd.get 0 _ rfl rfl); clear hρ hd
                    (go_simp; (try (first | exact wrap_in _ (by omega) (by omega) | omega)))
                  refine FSteps.cons (FStep.value (.bool true) (fun _ _ _ => wanted_none rfl) (fun _ _ => rfl) (fun _ => rfl) (fun u w hW hC (hd : After _ _ u w) ρ hρ => ?_)) ?_
                  · have r126 : ρ (.tmp 126) = .bool true := (by rw [hρ]; exact hd.get 0 _ rfl rfl); clear hρ hd
                    (go_simp; (try (first | exact wrap_in _ (by omega) (by omega) | omega)))
                  refine FSteps.cons (FStep.off_ 2 127 false rfl rfl (fun u w hd => .inl (congrArg some (After.get (V := vOf _) hd 0 _ rfl rfl))) (fun _ => rfl) (fun _ => rfl)) ?_
                  refine FSteps.cons (FStep.off_ 2 127 false rfl rfl (fun u w hd => .inl (congrArg some (After.get (V := vOf _) hd 1 _ rfl rfl))) (fun _ => rfl) (fun _ => rfl)) ?_
                  refine FSteps.cons (FStep.off_ 2 127 false rfl rfl (fun u w hd => .inl (congrArg some (After.get (V := vOf _) hd 1 _ rfl rfl))) (fun _ => rfl) (fun _ => rfl)) ?_
                  refine FSteps.cons (FStep.off_ 2 127 false rfl rfl (fun u w hd => .inl (congrArg some (After.get (V := vOf _) hd 0 _ rfl rfl))) (fun _ => rfl) (fun _ => rfl)) ?_
                  refine FSteps.cons (FStep.off_ 2 127 false rfl rfl (fun u w hd => .inl (congrArg some (After.get (V := vOf _) hd 1 _ rfl rfl))) (fun _ => rfl) (fun _ => rfl)) ?_
                  refine FSteps.cons (FStep.off_ 2 127 false rfl rfl (fun u w hd => .inl (congrArg some (After.get (V := vOf _) hd 2 _ rfl rfl))) (fun _ => rfl) (fun _ => rfl)) ?_
                  refine FSteps.cons (FStep.off_ 2 127 false rfl rfl (fun u w hd => .inl (congrArg some (After.get (V := vOf _) hd 2 _ rfl rfl))) (fun _ => rfl) (fun _ => rfl)) ?_
                  refine FSteps.cons (FStep.off_ 2 127 false rfl rfl (fun u w hd => .inl (congrArg some (After.get (V := vOf _) hd 0 _ rfl rfl))) (fun _ => rfl) (fun _ => rfl)) ?_
                  refine FSteps.cons (FStep.off_ 2 127 false rfl rfl (fun u w hd => .inl (congrArg some (After.get (V := vOf _) hd 1 _ rfl rfl))) (fun _ => rfl) (fun _ => rfl)) ?_
                  refine FSteps.cons (FStep.off_ 2 127 false rfl rfl (fun u w hd => .inl (congrArg some (After.get (V := vOf _) hd 2 _ rfl rfl))) (fun _ => rfl) (fun _ => rfl)) ?_
                  refine FSteps.cons (FStep.off_ 2 127 false rfl rfl (fun u w hd => .inl (congrArg some (After.get (V := vOf _) hd 2 _ rfl rfl))) (fun _ => rfl) (fun _ => rfl)) ?_
                  refine FSteps.cons (FStep.off_ 2 127 false rfl rfl (fun u w hd => .inl (congrArg some (After.get (V := vOf _) hd 2 _ rfl rfl))) (fun _ => rfl) (fun _ => rfl)) ?_
                  refine FSteps.cons (FStep.off_ 14 139 true rfl rfl (fun u w hd => .inr (congrArg some (After.get (V := vOf _) hd 0 _ rfl rfl))) (fun _ => rfl) (fun _ => rfl)) ?_
                  refine FSteps.cons (FStep.off_ 14 139 true rfl rfl (fun u w hd => .inr (congrArg some (After.get (V := vOf _) hd 1 _ rfl rfl))) (fun _ => rfl) (fun _ => rfl)) ?_
                  refine FSteps.cons (FStep.off_ 14 139 true rfl rfl (fun u w hd => .inr (congrArg some (After.get (V := vOf _) hd 1 _ rfl rfl))) (fun _ => rfl) (fun _ => rfl)) ?_
                  refine FSteps.cons (FStep.off_ 14 139 true rfl rfl (fun u w hd => .inr (congrArg some (After.get (V := vOf _) hd 0 _ rfl rfl))) (fun _ => rfl) (fun _ => rfl)) ?_
                  refine FSteps.cons (FStep.off_ 14 139 true rfl rfl (fun u w hd => .inr (congrArg some (After.get (V := vOf _) hd 1 _ rfl rfl))) (fun _ => rfl) (fun _ => rfl)) ?_
                  refine FSteps.cons (FStep.off_ 14 139 true rfl rfl (fun u w hd => .inr (congrArg some (After.get (V := vOf _) hd 1 _ rfl rfl))) (fun _ => rfl) (fun _ => rfl)) ?_
                  refine FSteps.cons (FStep.off_ 14 139 true rfl rfl (fun u w hd => .inr (congrArg some (After.get (V := vOf _) hd 2 _ rfl rfl))) (fun _ => rfl) (fun _ => rfl)) ?_
                  refine FSteps.cons (FStep.off_ 14 139 true rfl rfl (fun u w hd => .inr (congrArg some (After.get (V := vOf _) hd 0 _ rfl rfl))) (fun _ => rfl) (fun _ => rfl)) ?_
                  refine FSteps.cons (FStep.off_ 14 139 true rfl rfl (fun u w hd => .inr (congrArg some (After.get (V := vOf _) hd 1 _ rfl rfl))) (fun _ => rfl) (fun _ => rfl)) ?_
                  refine FSteps.cons (FStep.off_ 14 139 true rfl rfl (fun u w hd => .inr (congrArg some (After.get (V := vOf _) hd 1 _ rfl rfl))) (fun _ => rfl) (fun _ => rfl)) ?_
                  refine FSteps.cons (FStep.off_ 14 139 true rfl rfl (fun u w hd => .inr (congrArg some (After.get (V := vOf _) hd 1 _ rfl rfl))) (fun _ => rfl) (fun _ => rfl)) ?_
                  refine FSteps.cons (FStep.off_ 14 139 true rfl rfl (fun u w hd => .inr (congrArg some (After.get (V := vOf _) hd 2 _ rfl rfl))) (fun _ => rfl) (fun _ => rfl)) ?_
                  refine FSteps.cons (FStep.off_ 2 127 false rfl rfl (fun u w hd => .inl (congrArg some (After.get (V := vOf _) hd 2 _ rfl rfl))) (fun _ => rfl) (fun _ => rfl)) ?_
                  refine FSteps.cons (FStep.off_ 2 127 false rfl rfl (fun u w hd => .inl (congrArg some (After.get (V := vOf _) hd 2 _ rfl rfl))) (fun _ => rfl) (fun _ => rfl)) ?_
                  refine FSteps.cons (FStep.off_ 28 153 true rfl rfl (fun u w hd => .inr (congrArg some (After.get (V := vOf _) hd 0 _ rfl rfl))) (fun _ => rfl) (fun _ => rfl)) ?_
                  refine FSteps.cons (FStep.off_ 28 153 true rfl rfl (fun u w hd => .inr (congrArg some (After.get (V := vOf _) hd 1 _ rfl rfl))) (fun _ => rfl) (fun _ => rfl)) ?_
                  refine FSteps.cons (FStep.off_ 2 127 false rfl rfl (fun u w hd => .inl (congrArg some (After.get (V := vOf _) hd 2 _ rfl rfl))) (fun _ => rfl) (fun _ => rfl)) ?_
                  refine FSteps.cons (FStep.off_ 2 127 false rfl rfl (fun u w hd => .inl (congrArg some (After.get (V := vOf _) hd 2 _ rfl rfl))) (fun _ => rfl) (fun _ => rfl)) ?_
                  refine FSteps.cons (FStep.off_ 32 157 true rfl rfl (fun u w hd => .inr (congrArg some (After.get (V := vOf _) hd 0 _ rfl rfl))) (fun _ => rfl) (fun _ => rfl)) ?_
                  refine FSteps.cons (FStep.off_ 32 157 true rfl rfl (fun u w hd => .inr (congrArg some (After.get (V := vOf _) hd 1 _ rfl rfl))) (fun _ => rfl) (fun _ => rfl)) ?_
                  refine FSteps.cons (FStep.off_ 2 127 false rfl rfl (fun u w hd => .inl (congrArg some (After.get (V := vOf _) hd 2 _ rfl rfl))) (fun _ => rfl) (fun _ => rfl)) ?_
                  refine FSteps.cons (FStep.value (.bool true) (fun _ _ _ => wanted_none rfl) (fun _ _ => rfl) (fun _ => rfl) (fun u w hW hC (hd : After _ _ u w) ρ hρ => ?_)) ?_
                  · have r127 : ρ (.tmp 127) = .bool true := (by rw [hρ]; exact hd.get 0 _ rfl rfl); have r160 : ρ (.tmp 160) = undef := (by rw [hρ]; exact hd.get 1 _ rfl rfl); have rc : ∀ v, ρ (.const v) = v := (by subst hρ; exact fun _ => rfl); clear hρ hd
                    (go_simp; (try (first | exact wrap_in _ (by omega) (by omega) | omega)))
                  refine FSteps.cons (FStep.value (.bool true) (fun _ _ _ => wanted_none rfl) (fun _ _ => rfl) (fun _ => rfl) (fun u w hW hC (hd : After _ _ u w) ρ hρ => ?_)) ?_
                  · have r161 : ρ (.tmp 161) = .bool true := (by rw [hρ]; exact hd.get 0 _ rfl rfl); clear hρ hd
                    (go_simp; (try (first | exact wrap_in _ (by omega) (by omega) | omega)))
                  exact FSteps.nil
                case hV6 => (simp only [List.forall_mem_cons]; simp [stable_is])
                case fin6 =>
                  intro u w2 hW2 hC2 hd
                  have e37 : u 37 = .bool true := AllV.get _ 0 37 u w2 _ hd rfl
                  clear hd
                  refine then_normal ?_
                  go_step
                  refine wp_ret ?_
                  refine bodyPost_ret (results_tmp rfl _ _ _) rfl ?_
                  exact ⟨congrArg Ending.returned e37, (HX1.out.trans (hx14.trans hW2)).below⟩
            · go_wp2
              refine wp_flow (by kernel_rfl) (by kernel_rfl) (fun u => ⟨#[_, _, _, _, _, _, _, _, _, _, _, _, _, _, _, _, _, _, _, _, _, _, _, _, _, _, _, _, _, _, _, _, _, _, _, _, _, _, _, _, _, _, _, _, _, _, _, _, _, _, _, _, _, _, _, _, _, _, _, _, _, _, _, _, _, _, _, _, _, _, _, _, _, _, u 0, u 1, u 2, u 3, u 4, u 5, u 6, u 7, u 8, u 9, u 10, u 11, u 12, u 13, u 14, u 15, u 16, u 17, u 18, u 19, u 20, u 21, u 22, u 23, u 24, u 25, u 26, u 27, u 28, u 29, u 30, u 31, u 32, u 33, u 34, u 35, u 36, u 37, u 38, u 39, u 40, u 41, u 42, u 43, u 44, u 45, u 46, u 47, u 48, u 49, u 50, _, _, _, _, _, _, _, _, _, _, _, _, _, _, _, _, _, _, _, _, _, _, _, _, _, _, _, _, _, _, _, _, _, _, _, _, _], _⟩) (fun i => List.getD [_, _, _, _, _, _, _, _, _, _, _, _, _, _, _, _, _, _, _, _, _, _, _, _, _, _, _, _, _, _, _, _, _, _, _, _, _, _, _, _, _, _, _, _, _, _, _, _, _, _, _] i undef) [is (.bool true), is (.agg #[.slice (some ⟨gA, gO, none⟩) N c1]), is (.int .i64 ((k : Int))), is (.int .i64 ((i : Int))), is (.bool true), is (.bool false), is (.bool false), is (.bool true), is (.bool true), is (.bool false), is (.bool false), is (.bool false), is (.bool true), is (.bool true), is (.agg #[.slice (some ⟨gA, gO, none⟩) N c1]), is (.pointer (some ⟨b3, 0, none⟩)), is (.slice (some ⟨gA, gO, none⟩) N c1), is (.int .i64 ((i : Int))), is (.pointer (some ⟨gA, gO + i * 2, none⟩)), is (.agg #[.int .i64 Xi, .int .i64 Yi]), is (.pointer (some ⟨b3, 0, none⟩)), is (.slice (some ⟨gA, gO, none⟩) N c1), is (.int .i64 ((k : Int))), is (.pointer (some ⟨gA, gO + k * 2, none⟩)), is (.agg #[.int .i64 Xk, .int .i64 Yk]), is (.bool true), is (.bool false), is (.bool false), is (.bool false), is (.bool false), is (.bool false), is (.bool false), is (undef), is (undef), is (.bool false), is (.bool false), is (.bool false), is (.pointer (some ⟨b3, 0, none⟩)), is (.slice (some ⟨gA, gO, none⟩) N c1), is (.int .i64 ((N : Int))), is (.bool false), is (.bool false), is (undef), is (undef), is (undef), is (undef), is (undef), is (undef), is (undef), is (.bool false), is (.bool false)] (fun w' => (w'.cell? ⟨b3, 0, none⟩ = some (.slice (some ⟨gA, gO, none⟩) N c1) ∧ b3 < w'.heap.size) ∧ (w'.cell? ⟨gA, gO + i * 2, none⟩ = some (.int .i64 Xi) ∧ w'.cell? ⟨gA, gO + i * 2 + 1, none⟩ = some (.int .i64 Yi) ∧ gA < w'.heap.size) ∧ w'.cell? ⟨gA, gO + k * 2, none⟩ = some (.int .i64 Xk) ∧ w'.cell? ⟨gA, gO + k * 2 + 1, none⟩ = some (.int .i64 Yk)) _ rfl ?hC7 ?hs7 ?hV7 ?fin7
              case hC7 => exact fun w' hx => HXC.out w' hx
              case hs7 =>
                refine FSteps.cons (FStep.value (.bool true) (fun _ _ _ => wanted_none rfl) (fun _ _ => rfl) (fun _ => rfl) (fun u w hW hC (hd : After _ _ u w) ρ hρ => ?_)) ?_
                · have r6 : ρ (.tmp 6) = .bool true := (by subst hρ; rfl); clear hρ hd
                  (go_simp; (try (first | exact wrap_in _ (by omega) (by omega) | omega)))
                refine FSteps.cons (FStep.value (.agg #[.slice (some ⟨gA, gO, none⟩) N c1]) (fun _ _ _ => wanted_none rfl) (fun _ _ => rfl) (fun _ => rfl) (fun u w hW hC (hd : After _ _ u w) ρ hρ => ?_)) ?_
                · have r3 : ρ (.tmp 3) = .pointer (some ⟨b3, 0, none⟩) := (by subst hρ; rfl); clear hρ hd
                  (go_simp; (try (first | exact wrap_in _ (by omega) (by omega) | omega)))
                refine FSteps.cons (FStep.value (.int .i64 ((k : Int))) (fun _ _ _ => wanted_none rfl) (fun _ _ => rfl) (fun _ => rfl) (fun u w hW hC (hd : After _ _ u w) ρ hρ => ?_)) ?_
                · have r5 : ρ (.tmp 5) = .int .i64 ((k : Int)) := (by subst hρ; rfl); clear hρ hd
                  (go_simp; (try (first | exact wrap_in _ (by omega) (by omega) | omega)))
                refine FSteps.cons (FStep.value (.int .i64 ((i : Int))) (fun _ _ _ => wanted_none rfl) (fun _ _ => rfl) (fun _ => rfl) (fun u w hW hC (hd : After _ _ u w) ρ hρ => ?_)) ?_
                · have r4 : ρ (.tmp 4) = .int .i64 ((i : Int)) := (by subst hρ; rfl); clear hρ hd
                  (go_simp; (try (first | exact wrap_in _ (by omega) (by omega) | omega)))
                refine FSteps.cons (FStep.callC (.bool true) _ #[.agg #[.slice (some ⟨gA, gO, none⟩) N c1], .int .i64 ((k : Int)), .int .i64 ((i : Int))] (fun _ _ _ => wanted_none rfl) (fun _ _ => rfl) (fun _ => rfl) (fun u w hW hC (hd : After _ _ u w) ρ hρ => ?_) (fun w hW => IsDiagonal_at (some ⟨gA, gO, none⟩) L c1 N k i _ w HLN.out (HR1.out w (by (repeat (first | exact Ext.refl _ | assumption | apply Ext.alloc | apply Ext.drew | apply Ext.drewN | (refine Ext.trans ?_ (by assumption)))))) hn10 HP1.out)) ?_
                · have r75 : ρ (.tmp 75) = .agg #[.slice (some ⟨gA, gO, none⟩) N c1] := (by rw [hρ]; exact hd.get 0 _ rfl rfl); have r76 : ρ (.tmp 76) = .int .i64 ((k : Int)) := (by rw [hρ]; exact hd.get 1 _ rfl rfl); have r77 : ρ (.tmp 77) = .int .i64 ((i : Int)) := (by rw [hρ]; exact hd.get 2 _ rfl rfl); have rf : ∀ f, ρ (.func f) = .func (.func f) #[] #[] := (by subst hρ; exact fun _ => rfl); clear hρ hd
                  (go_simp; (try (first | exact wrap_in _ (by omega) (by omega) | omega)))
                refine FSteps.cons (FStep.value (.bool false) (fun _ _ _ => wanted_none rfl) (fun _ _ => rfl) (fun _ => rfl) (fun u w hW hC (hd : After _ _ u w) ρ hρ => ?_)) ?_
                · have r74 : ρ (.tmp 74) = .bool true := (by rw [hρ]; exact hd.get 0 _ rfl rfl); have r78 : ρ (.tmp 78) = .bool true := (by rw [hρ]; exact hd.get 1 _ rfl rfl); clear hρ hd
                  (go_simp; (try (first | exact wrap_in _ (by omega) (by omega) | omega)))
                refine FSteps.cons (FStep.value (.bool false) (fun _ _ _ => wanted_none rfl) (fun _ _ => rfl) (fun _ => rfl) (fun u w hW hC (hd : After _ _ u w) ρ hρ => ?_)) ?_
                · have r79 : ρ (.tmp 79) = .bool false := (by rw [hρ]; exact hd.get 0 _ rfl rfl); clear hρ hd
                  (go_simp; (try (first | exact wrap_in _ (by omega) (by omega) | omega)))
                refine FSteps.cons (FStep.value (.bool true) (fun u w hd => wanted_on 6 80 false rfl rfl (congrArg some (hd.get 0 _ rfl rfl))) (fun _ _ => rfl) (fun _ => rfl) (fun u w hW hC (hd : After _ _ u w) ρ hρ => ?_)) ?_
                · have r11 : ρ (.tmp 11) = .bool true := (by subst hρ; rfl); clear hρ hd
                  (go_simp; (try (first | exact wrap_in _ (by omega) (by omega) | omega)))
                refine FSteps.cons (FStep.value (.bool true) (fun u w hd => wanted_on 6 80 false rfl rfl (congrArg some (hd.get 0 _ rfl rfl))) (fun _ _ => rfl) (fun _ => rfl) (fun u w hW hC (hd : After _ _ u w) ρ hρ => ?_)) ?_
                · have r6 : ρ (.tmp 6) = .bool true := (by subst hρ; rfl); clear hρ hd
                  (go_simp; (try (first | exact wrap_in _ (by omega) (by omega) | omega)))
                refine FSteps.cons (FStep.value (.bool false) (fun u w hd => wanted_on 6 80 false rfl rfl (congrArg some (hd.get 2 _ rfl rfl))) (fun _ _ => rfl) (fun _ => rfl) (fun u w hW hC (hd : After _ _ u w) ρ hρ => ?_)) ?_
                · have r81 : ρ (.tmp 81) = .bool true := (by rw [hρ]; exact hd.get 0 _ rfl rfl); have r82 : ρ (.tmp 82) = .bool true := (by rw [hρ]; exact hd.get 1 _ rfl rfl); clear hρ hd
                  (go_simp; (try (first | exact wrap_in _ (by omega) (by omega) | omega)))
                refine FSteps.cons (FStep.value (.bool false) (fun _ _ _ => wanted_none rfl) (fun _ _ => rfl) (fun _ => rfl) (fun u w hW hC (hd : After _ _ u w) ρ hρ => ?_)) ?_
                · have r80 : ρ (.tmp 80) = .bool false := (by rw [hρ]; exact hd.get 0 _ rfl rfl); have r83 : ρ (.tmp 83) = .bool false := (by rw [hρ]; exact hd.get 1 _ rfl rfl); have rc : ∀ v, ρ (.const v) = v := (by subst hρ; exact fun _ => rfl); clear hρ hd
                  (go_simp; (try (first | exact wrap_in _ (by omega) (by omega) | omega)))
                refine FSteps.cons (FStep.value (.bool false) (fun _ _ _ => wanted_none rfl) (fun _ _ => rfl) (fun _ => rfl) (fun u w hW hC (hd : After _ _ u w) ρ hρ => ?_)) ?_
                · have r84 : ρ (.tmp 84) = .bool false := (by rw [hρ]; exact hd.get 0 _ rfl rfl); clear hρ hd
                  (go_simp; (try (first | exact wrap_in _ (by omega) (by omega) | omega)))
                refine FSteps.cons (FStep.value (.bool true) (fun u w hd => wanted_on 11 85 false rfl rfl (congrArg some (hd.get 0 _ rfl rfl))) (fun _ _ => rfl) (fun _ => rfl) (fun u w hW hC (hd : After _ _ u w) ρ hρ => ?_)) ?_
                · have r6 : ρ (.tmp 6) = .bool true := (by subst hρ; rfl); clear hρ hd
                  (go_simp; (try (first | exact wrap_in _ (by omega) (by omega) | omega)))
                refine FSteps.cons (FStep.value (.bool true) (fun u w hd => wanted_on 11 85 false rfl rfl (congrArg some (hd.get 1 _ rfl rfl))) (fun _ _ => rfl) (fun _ => rfl) (fun u w hW hC (hd : After _ _ u w) ρ hρ => ?_)) ?_
                · have r86 : ρ (.tmp 86) = .bool true := (by rw [hρ]; exact hd.get 0 _ rfl rfl); clear hρ hd
                  (go_simp; (try (first | exact wrap_in _ (by omega) (by omega) | omega)))
                refine FSteps.cons (FStep.value (.agg #[.slice (some ⟨gA, gO, none⟩) N c1]) (fun u w hd => wanted_on 13 87 true rfl rfl (congrArg some (hd.get 0 _ rfl rfl))) (fun _ _ => rfl) (fun _ => rfl) (fun u w hW hC (hd : After _ _ u w) ρ hρ => ?_)) ?_
                · have r3 : ρ (.tmp 3) = .pointer (some ⟨b3, 0, none⟩) := (by subst hρ; rfl); clear hρ hd
                  (go_simp; (try (first | exact wrap_in _ (by omega) (by omega) | omega)))
                refine FSteps.cons (FStep.value (.pointer (some ⟨b3, 0, none⟩)) (fun u w hd => wanted_on 13 87 true rfl rfl (congrArg some (hd.get 0 _ rfl rfl))) (fun _ _ => rfl) (fun _ => rfl) (fun u w hW hC (hd : After _ _ u w) ρ hρ => ?_)) ?_
                · have r3 : ρ (.tmp 3) = .pointer (some ⟨b3, 0, none⟩) := (by subst hρ; rfl); clear hρ hd
                  (go_simp; (try (first | exact wrap_in _ (by omega) (by omega) | omega)))
                refine FSteps.cons (FStep.value (.slice (some ⟨gA, gO, none⟩) N c1) (fun u w hd => wanted_on 13 87 true rfl rfl (congrArg some (hd.get 1 _ rfl rfl))) (fun _ _ => rfl) (fun _ => rfl) (fun u w hW hC (hd : After _ _ u w) ρ hρ => ?_)) ?_
                · have r89 : ρ (.tmp 89) = .pointer (some ⟨b3, 0, none⟩) := (by rw [hρ]; exact hd.get 0 _ rfl rfl); clear hρ hd
                  (go_simp; (try (first | exact wrap_in _ (by omega) (by omega) | omega)))
                refine FSteps.cons (FStep.value (.int .i64 ((i : Int))) (fun u w hd => wanted_on 13 87 true rfl rfl (congrArg some (hd.get 0 _ rfl rfl))) (fun _ _ => rfl) (fun _ => rfl) (fun u w hW hC (hd : After _ _ u w) ρ hρ => ?_)) ?_
                · have r4 : ρ (.tmp 4) = .int .i64 ((i : Int)) := (by subst hρ; rfl); clear hρ hd
                  (go_simp; (try (first | exact wrap_in _ (by omega) (by omega) | omega)))
                refine FSteps.cons (FStep.value (.pointer (some ⟨gA, gO + i * 2, none⟩)) (fun u w hd => wanted_on 13 87 true rfl rfl (congrArg some (hd.get 2 _ rfl rfl))) (fun _ _ => rfl) (fun _ => rfl) (fun u w hW hC (hd : After _ _ u w) ρ hρ => ?_)) ?_
                · have r90 : ρ (.tmp 90) = .slice (some ⟨gA, gO, none⟩) N c1 := (by rw [hρ]; exact hd.get 0 _ rfl rfl); have r91 : ρ (.tmp 91) = .int .i64 ((i : Int)) := (by rw [hρ]; exact hd.get 1 _ rfl rfl); clear hρ hd
                  (go_simp; (try (first | exact wrap_in _ (by omega) (by omega) | omega)))
                refine FSteps.cons (FStep.value (.agg #[.int .i64 Xi, .int .i64 Yi]) (fun u w hd => wanted_on 13 87 true rfl rfl (congrArg some (hd.get 1 _ rfl rfl))) (fun _ _ => rfl) (fun _ => rfl) (fun u w hW hC (hd : After _ _ u w) ρ hρ => ?_)) ?_
                · have r92 : ρ (.tmp 92) = .pointer (some ⟨gA, gO + i * 2, none⟩) := (by rw [hρ]; exact hd.get 0 _ rfl rfl); clear hρ hd
                  (go_simp; (try (first | exact wrap_in _ (by omega) (by omega) | omega)))
                refine FSteps.cons (FStep.value (.pointer (some ⟨b3, 0, none⟩)) (fun u w hd => wanted_on 13 87 true rfl rfl (congrArg some (hd.get 0 _ rfl rfl))) (fun _ _ => rfl) (fun _ => rfl) (fun u w hW hC (hd : After _ _ u w) ρ hρ => ?_)) ?_
                · have r3 : ρ (.tmp 3) = .pointer (some ⟨b3, 0, none⟩) := (by subst hρ; rfl); clear hρ hd
                  (go_simp; (try (first | exact wrap_in _ (by omega) (by omega) | omega)))
                refine FSteps.cons (FStep.value (.slice (some ⟨gA, gO, none⟩) N c1) (fun u w hd => wanted_on 13 87 true rfl rfl (congrArg some (hd.get 1 _ rfl rfl))) (fun _ _ => rfl) (fun _ => rfl) (fun u w hW hC (hd : After _ _ u w) ρ hρ => ?_)) ?_
                · have r94 : ρ (.tmp 94) = .pointer (some ⟨b3, 0, none⟩) := (by rw [hρ]; exact hd.get 0 _ rfl rfl); clear hρ hd
                  (go_simp; (try (first | exact wrap_in _ (by omega) (by omega) | omega)))
                refine FSteps.cons (FStep.value (.int .i64 ((k : Int))) (fun u w hd => wanted_on 13 87 true rfl rfl (congrArg some (hd.get 0 _ rfl rfl))) (fun _ _ => rfl) (fun _ => rfl) (fun u w hW hC (hd : After _ _ u w) ρ hρ => ?_)) ?_
                · have r5 : ρ (.tmp 5) = .int .i64 ((k : Int)) := (by subst hρ; rfl); clear hρ hd
                  (go_simp; (try (first | exact wrap_in _ (by omega) (by omega) | omega)))
                refine FSteps.cons (FStep.value (.pointer (some ⟨gA, gO + k * 2, none⟩)) (fun u w hd => wanted_on 13 87 true rfl rfl (congrArg some (hd.get 2 _ rfl rfl))) (fun _ _ => rfl) (fun _ => rfl) (fun u w hW hC (hd : After _ _ u w) ρ hρ => ?_)) ?_
                · have r95 : ρ (.tmp 95) = .slice (some ⟨gA, gO, none⟩) N c1 := (by rw [hρ]; exact hd.get 0 _ rfl rfl); have r96 : ρ (.tmp 96) = .int .i64 ((k : Int)) := (by rw [hρ]; exact hd.get 1 _ rfl rfl); clear hρ hd
                  (go_simp; (try (first | exact wrap_in _ (by omega) (by omega) | omega)))
                refine FSteps.cons (FStep.value (.agg #[.int .i64 Xk, .int .i64 Yk]) (fun u w hd => wanted_on 13 87 true rfl rfl (congrArg some (hd.get 1 _ rfl rfl))) (fun _ _ => rfl) (fun _ => rfl) (fun u w hW hC (hd : After _ _ u w) ρ hρ => ?_)) ?_
                · have r97 : ρ (.tmp 97) = .pointer (some ⟨gA, gO + k * 2, none⟩) := (by rw [hρ]; exact hd.get 0 _ rfl rfl); clear hρ hd
                  (go_simp; (try (first | exact wrap_in _ (by omega) (by omega) | omega)))
                refine FSteps.cons (FStep.callC (.bool true) _ #[.agg #[.slice (some ⟨gA, gO, none⟩) N c1], .agg #[.int .i64 Xi, .int .i64 Yi], .agg #[.int .i64 Xk, .int .i64 Yk]] (fun u w hd => wanted_on 13 87 true rfl rfl (congrArg some (hd.get 3 _ rfl rfl))) (fun _ _ => rfl) (fun _ => rfl) (fun u w hW hC (hd : After _ _ u w) ρ hρ => ?_) (fun w hW => Sees_at (some ⟨gA, gO, none⟩) L c1 N Xi Yi Xk Yk _ w HLN.out (HR1.out w (by (repeat (first | exact Ext.refl _ | assumption | apply Ext.alloc | apply Ext.drew | apply Ext.drewN | (refine Ext.trans ?_ (by assumption)))))) hn10 HSE.out)) ?_
                · have r88 : ρ (.tmp 88) = .agg #[.slice (some ⟨gA, gO, none⟩) N c1] := (by rw [hρ]; exact hd.get 0 _ rfl rfl); have r93 : ρ (.tmp 93) = .agg #[.int .i64 Xi, .int .i64 Yi] := (by rw [hρ]; exact hd.get 1 _ rfl rfl); have r98 : ρ (.tmp 98) = .agg #[.int .i64 Xk, .int .i64 Yk] := (by rw [hρ]; exact hd.get 2 _ rfl rfl); have rf : ∀ f, ρ (.func f) = .func (.func f) #[] #[] := (by subst hρ; exact fun _ => rfl); clear hρ hd
                  (go_simp; (try (first | exact wrap_in _ (by omega) (by omega) | omega)))
                refine FSteps.cons (FStep.value (.bool false) (fun u w hd => wanted_on 13 87 true rfl rfl (congrArg some (hd.get 1 _ rfl rfl))) (fun _ _ => rfl) (fun _ => rfl) (fun u w hW hC (hd : After _ _ u w) ρ hρ => ?_)) ?_
                · have r99 : ρ (.tmp 99) = .bool true := (by rw [hρ]; exact hd.get 0 _ rfl rfl); clear hρ hd
                  (go_simp; (try (first | exact wrap_in _ (by omega) (by omega) | omega)))
                refine FSteps.cons (FStep.value (.bool false) (fun u w hd => wanted_on 11 85 false rfl rfl (congrArg some (hd.get 2 _ rfl rfl))) (fun _ _ => rfl) (fun _ => rfl) (fun u w hW hC (hd : After _ _ u w) ρ hρ => ?_)) ?_
                · have r87 : ρ (.tmp 87) = .bool true := (by rw [hρ]; exact hd.get 0 _ rfl rfl); have r100 : ρ (.tmp 100) = .bool false := (by rw [hρ]; exact hd.get 1 _ rfl rfl); have rc : ∀ v, ρ (.const v) = v := (by subst hρ; exact fun _ => rfl); clear hρ hd
                  (go_simp; (try (first | exact wrap_in _ (by omega) (by omega) | omega)))
                refine FSteps.cons (FStep.value (.bool false) (fun _ _ _ => wanted_none rfl) (fun _ _ => rfl) (fun _ => rfl) (fun u w hW hC (hd : After _ _ u w) ρ hρ => ?_)) ?_
                · have r85 : ρ (.tmp 85) = .bool false := (by rw [hρ]; exact hd.get 0 _ rfl rfl); have r101 : ρ (.tmp 101) = .bool false := (by rw [hρ]; exact hd.get 1 _ rfl rfl); have rc : ∀ v, ρ (.const v) = v := (by subst hρ; exact fun _ => rfl); clear hρ hd
                  (go_simp; (try (first | exact wrap_in _ (by omega) (by omega) | omega)))
                refine FSteps.cons (FStep.value (.bool false) (fun _ _ _ => wanted_none rfl) (fun _ _ => rfl) (fun _ => rfl) (fun u w hW hC (hd : After _ _ u w) ρ hρ => ?_)) ?_
                · have r102 : ρ (.tmp 102) = .bool false := (by rw [hρ]; exact hd.get 0 _ rfl rfl); clear hρ hd
                  (go_simp; (try (first | exact wrap_in _ (by omega) (by omega) | omega)))
                refine FSteps.cons (FStep.value (.bool false) (fun u w hd => wanted_on 29 103 false rfl rfl (congrArg some (hd.get 0 _ rfl rfl))) (fun _ _ => rfl) (fun _ => rfl) (fun u w hW hC (hd : After _ _ u w) ρ hρ => ?_)) ?_
                · have r9 : ρ (.tmp 9) = .bool false := (by subst hρ; rfl); clear hρ hd
                  (go_simp; (try (first | exact wrap_in _ (by omega) (by omega) | omega)))
                refine FSteps.cons (FStep.value (.bool false) (fun u w hd => wanted_on 29 103 false rfl rfl (congrArg some (hd.get 1 _ rfl rfl))) (fun _ _ => rfl) (fun _ => rfl) (fun u w hW hC (hd : After _ _ u w) ρ hρ => ?_)) ?_
                · have r104 : ρ (.tmp 104) = .bool false := (by rw [hρ]; exact hd.get 0 _ rfl rfl); clear hρ hd
                  (go_simp; (try (first | exact wrap_in _ (by omega) (by omega) | omega)))
                refine FSteps.cons (FStep.off_ 31 105 true rfl rfl (fun u w hd => .inl (congrArg some (After.get (V := vOf _) hd 0 _ rfl rfl))) (fun _ => rfl) (fun _ => rfl)) ?_
                refine FSteps.cons (FStep.off_ 31 105 true rfl rfl (fun u w hd => .inl (congrArg some (After.get (V := vOf _) hd 1 _ rfl rfl))) (fun _ => rfl) (fun _ => rfl)) ?_
                refine FSteps.cons (FStep.value (.bool false) (fun u w hd => wanted_on 29 103 false rfl rfl (congrArg some (hd.get 2 _ rfl rfl))) (fun _ _ => rfl) (fun _ => rfl) (fun u w hW hC (hd : After _ _ u w) ρ hρ => ?_)) ?_
                · have r105 : ρ (.tmp 105) = .bool false := (by rw [hρ]; exact hd.get 0 _ rfl rfl); have r107 : ρ (.tmp 107) = undef := (by rw [hρ]; exact hd.get 1 _ rfl rfl); have rc : ∀ v, ρ (.const v) = v := (by subst hρ; exact fun _ => rfl); clear hρ hd
                  (go_simp; (try (first | exact wrap_in _ (by omega) (by omega) | omega)))
                refine FSteps.cons (FStep.value (.bool false) (fun _ _ _ => wanted_none rfl) (fun _ _ => rfl) (fun _ => rfl) (fun u w hW hC (hd : After _ _ u w) ρ hρ => ?_)) ?_
                · have r103 : ρ (.tmp 103) = .bool false := (by rw [hρ]; exact hd.get 0 _ rfl rfl); have r108 : ρ (.tmp 108) = .bool false := (by rw [hρ]; exact hd.get 1 _ rfl rfl); have rc : ∀ v, ρ (.const v) = v := (by subst hρ; exact fun _ => rfl); clear hρ hd
                  (go_simp; (try (first | exact wrap_in _ (by omega) (by omega) | omega)))
                refine FSteps.cons (FStep.value (.bool false) (fun _ _ _ => wanted_none rfl) (fun _ _ => rfl) (fun _ => rfl) (fun u w hW hC (hd : After _ _ u w) ρ hρ => ?_)) ?_
                · have r109 : ρ (.tmp 109) = .bool false := (by rw [hρ]; exact hd.get 0 _ rfl rfl); clear hρ hd
                  (go_simp; (try (first | exact wrap_in _ (by omega) (by omega) | omega)))
                refine FSteps.cons (FStep.value (.pointer (some ⟨b3, 0, none⟩)) (fun u w hd => wanted_on 36 110 false rfl rfl (congrArg some (hd.get 0 _ rfl rfl))) (fun _ _ => rfl) (fun _ => rfl) (fun u w hW hC (hd : After _ _ u w) ρ hρ => ?_)) ?_
                · have r3 : ρ (.tmp 3) = .pointer (some ⟨b3, 0, none⟩) := (by subst hρ; rfl); clear hρ hd
                  (go_simp; (try (first | exact wrap_in _ (by omega) (by omega) | omega)))
                refine FSteps.cons (FStep.value (.slice (some ⟨gA, gO, none⟩) N c1) (fun u w hd => wanted_on 36 110 false rfl rfl (congrArg some (hd.get 1 _ rfl rfl))) (fun _ _ => rfl) (fun _ => rfl) (fun u w hW hC (hd : After _ _ u w) ρ hρ => ?_)) ?_
                · have r111 : ρ (.tmp 111) = .pointer (some ⟨b3, 0, none⟩) := (by rw [hρ]; exact hd.get 0 _ rfl rfl); clear hρ hd
                  (go_simp; (try (first | exact wrap_in _ (by omega) (by omega) | omega)))
                refine FSteps.cons (FStep.value (.int .i64 ((N : Int))) (fun u w hd => wanted_on 36 110 false rfl rfl (congrArg some (hd.get 1 _ rfl rfl))) (fun _ _ => rfl) (fun _ => rfl) (fun u w hW hC (hd : After _ _ u w) ρ hρ => ?_)) ?_
                · have r112 : ρ (.tmp 112) = .slice (some ⟨gA, gO, none⟩) N c1 := (by rw [hρ]; exact hd.get 0 _ rfl rfl); clear hρ hd
                  (go_simp; (try (first | exact wrap_in _ (by omega) (by omega) | omega)))
                refine FSteps.cons (FStep.value (.bool false) (fun u w hd => wanted_on 36 110 false rfl rfl (congrArg some (hd.get 1 _ rfl rfl))) (fun _ _ => rfl) (fun _ => rfl) (fun u w hW hC (hd : After _ _ u w) ρ hρ => ?_)) ?_
                · have r113 : ρ (.tmp 113) = .int .i64 ((N : Int)) := (by rw [hρ]; exact hd.get 0 _ rfl rfl); have rc : ∀ v, ρ (.const v) = v := (by subst hρ; exact fun _ => rfl); clear hρ hd
                  (go_simp; (try (first | exact wrap_in _ (by omega) (by omega) | omega)))
                refine FSteps.cons (FStep.value (.bool false) (fun u w hd => wanted_on 36 110 false rfl rfl (congrArg some (hd.get 1 _ rfl rfl))) (fun _ _ => rfl) (fun _ => rfl) (fun u w hW hC (hd : After _ _ u w) ρ hρ => ?_)) ?_
                · have r114 : ρ (.tmp 114) = .bool false := (by rw [hρ]; exact hd.get 0 _ rfl rfl); clear hρ hd
                  (go_simp; (try (first | exact wrap_in _ (by omega) (by omega) | omega)))
                refine FSteps.cons (FStep.off_ 41 115 true rfl rfl (fun u w hd => .inl (congrArg some (After.get (V := vOf _) hd 0 _ rfl rfl))) (fun _ => rfl) (fun _ => rfl)) ?_
                refine FSteps.cons (FStep.off_ 41 115 true rfl rfl (fun u w hd => .inl (congrArg some (After.get (V := vOf _) hd 1 _ rfl rfl))) (fun _ => rfl) (fun _ => rfl)) ?_
                refine FSteps.cons (FStep.off_ 41 115 true rfl rfl (fun u w hd => .inl (congrArg some (After.get (V := vOf _) hd 0 _ rfl rfl))) (fun _ => rfl) (fun _ => rfl)) ?_
                refine FSteps.cons (FStep.off_ 41 115 true rfl rfl (fun u w hd => .inl (congrArg some (After.get (V := vOf _) hd 1 _ rfl rfl))) (fun _ => rfl) (fun _ => rfl)) ?_
                refine FSteps.cons (FStep.off_ 41 115 true rfl rfl (fun u w hd => .inl (congrArg some (After.get (V := vOf _) hd 1 _ rfl rfl))) (fun _ => rfl) (fun _ => rfl)) ?_
                refine FSteps.cons (FStep.off_ 41 115 true rfl rfl (fun u w hd => .inl (congrArg some (After.get (V := vOf _) hd 1 _ rfl rfl))) (fun _ => rfl) (fun _ => rfl)) ?_
                refine FSteps.cons (FStep.off_ 41 115 true rfl rfl (fun u w hd => .inl (congrArg some (After.get (V := vOf _) hd 2 _ rfl rfl))) (fun _ => rfl) (fun _ => rfl)) ?_
                refine FSteps.cons (FStep.value (.bool false) (fun u w hd => wanted_on 36 110 false rfl rfl (congrArg some (hd.get 2 _ rfl rfl))) (fun _ _ => rfl) (fun _ => rfl) (fun u w hW hC (hd : After _ _ u w) ρ hρ => ?_)) ?_
                · have r115 : ρ (.tmp 115) = .bool false := (by rw [hρ]; exact hd.get 0 _ rfl rfl); have r122 : ρ (.tmp 122) = undef := (by rw [hρ]; exact hd.get 1 _ rfl rfl); have rc : ∀ v, ρ (.const v) = v := (by subst hρ; exact fun _ => rfl); clear hρ hd
                  (go_simp; (try (first | exact wrap_in _ (by omega) (by omega) | omega)))
                refine FSteps.cons (FStep.value (.bool false) (fun _ _ _ => wanted_none rfl) (fun _ _ => rfl) (fun _ => rfl) (fun u w hW hC (hd : After _ _ u w) ρ hρ => ?_)) ?_
                · have r110 : ρ (.tmp 110) = .bool false := (by rw [hρ]; exact hd.get 0 _ rfl rfl); have r123 : ρ (.tmp 123) = .bool false := (by rw [hρ]; exact hd.get 1 _ rfl rfl); have rc : ∀ v, ρ (.const v) = v := (by subst hρ; exact fun _ => rfl); clear hρ hd
                  (go_simp; (try (first | exact wrap_in _ (by omega) (by omega) | omega)))
                exact FSteps.nil
              case hV7 => (simp only [List.forall_mem_cons]; simp [stable_is])
              case fin7 =>
                intro u w2 hW2 hC2 hd
                have e50 : u 50 = .bool false := AllV.get _ 0 50 u w2 _ hd rfl
                clear hd
                obtain ⟨we, rfl⟩ : ∃ we : World, we = w2 := ⟨_, rfl⟩
                have hx14 := hW2
                simp only [e50]
                clear hC2 hW2
                go_wp2
                refine wp_flow (by kernel_rfl) (by kernel_rfl) (fun u => ⟨#[_, _, u 37, _, _, _, _, _, _, _, _, _, _, _, _, _, _, _, _, _, _, _, _, _, _, _, _, _, _, _, _, _, _, _, _, _, _, _, _, _, _, _, _, _, _, _, _, _, _, _, _, _, _, _, _, _, _, _, _, _, _, _, _, _, _, _, _, _, _, _, _, _, _, _, _, _, _, _, _, _, _, _, _, _, _, _, _, _, _, _, _, _, _, _, _, _, _, _, _, _, _, _, _, _, _, _, _, _, _, _, _, _, _, _, _, _, _, _, _, _, _, _, _, _, _, u 0, u 1, u 2, u 3, u 4, u 5, u 6, u 7, u 8, u 9, u 10, u 11, u 12, u 13, u 14, u 15, u 16, u 17, u 18, u 19, u 20, u 21, u 22, u 23, u 24, u 25, u 26, u 27, u 28, u 29, u 30, u 31, u 32, u 33, u 34, u 35, u 36], _⟩) (fun i => List.getD [_, _, _, _, _, _, _, _, _, _, _, _, _, _, _, _, _, _, _, _, _, _, _, _, _, _, _, _, _, _, _, _, _, _, _, _, _, _] i undef) [is (.bool false), is (.bool true), is (.bool true), is (undef), is (undef), is (undef), is (undef), is (undef), is (undef), is (undef), is (undef), is (undef), is (undef), is (undef), is (undef), is (undef), is (undef), is (undef), is (undef), is (undef), is (undef), is (undef), is (undef), is (undef), is (undef), is (undef), is (undef), is (undef), is (undef), is (undef), is (undef), is (undef), is (undef), is (undef), is (undef), is (undef), is (.bool true), is (.bool true)] (fun w' => w'.cell? ⟨b3, 0, none⟩ = some (.slice (some ⟨gA, gO, none⟩) N c1) ∧ b3 < w'.heap.size) _ rfl ?hC8 ?hs8 ?hV8 ?fin8
                case hC8 => exact fun w' hx => (HB1.out w' (hx14.trans hx)).1
                case hs8 =>
                  refine FSteps.cons (FStep.value (.bool false) (fun _ _ _ => wanted_none rfl) (fun _ _ => rfl) (fun _ => rfl) (fun u w hW hC (hd : After _ _ u w) ρ hρ => ?_)) ?_
                  · have r9 : ρ (.tmp 9) = .bool false := (by subst hρ; rfl); clear hρ hd
                    (go_simp; (try (first | exact wrap_in _ (by omega) (by omega) | omega)))
                  refine FSteps.cons (FStep.value (.bool true) (fun _ _ _ => wanted_none rfl) (fun _ _ => rfl) (fun _ => rfl) (fun u w hW hC (hd : After _ _ u w) ρ hρ => ?_)) ?_
                  · have r125 : ρ (.tmp 125) = .bool false := (by rw [hρ]; exact hd.get 0 _ rfl rfl); clear hρ hd
                    (go_simp; (try (first | exact wrap_in _ (by omega) (by omega) | omega)))
                  refine FSteps.cons (FStep.value (.bool true) (fun _ _ _ => wanted_none rfl) (fun _ _ => rfl) (fun _ => rfl) (fun u w hW hC (hd : After _ _ u w) ρ hρ => ?_)) ?_
                  · have r126 : ρ (.tmp 126) = .bool true := (by rw [hρ]; exact hd.get 0 _ rfl rfl); clear hρ hd
                    (go_simp; (try (first | exact wrap_in _ (by omega) (by omega) | omega)))
                  refine FSteps.cons (FStep.off_ 2 127 false rfl rfl (fun u w hd => .inl (congrArg some (After.get (V := vOf _) hd 0 _ rfl rfl))) (fun _ => rfl) (fun _ => rfl)) ?_
                  refine FSteps.cons (FStep.off_ 2 127 false rfl rfl (fun u w hd => .inl (congrArg some (After.get (V := vOf _) hd 1 _ rfl rfl))) (fun _ => rfl) (fun _ => rfl)) ?_
                  refine FSteps.cons (FStep.off_ 2 127 false rfl rfl (fun u w hd => .inl (congrArg some (After.get (V := vOf _) hd 1 _ rfl rfl))) (fun _ => rfl) (fun _ => rfl)) ?_
                  refine FSteps.cons (FStep.off_ 2 127 false rfl rfl (fun u w hd => .inl (congrArg some (After.get (V := vOf _) hd 0 _ rfl rfl))) (fun _ => rfl) (fun _ => rfl)) ?_
                  refine FSteps.cons (FStep.off_ 2 127 false rfl rfl (fun u w hd => .inl (congrArg some (After.get (V := vOf _) hd 1 _ rfl rfl))) (fun _ => rfl) (fun _ => rfl)) ?_
                  refine FSteps.cons (FStep.off_ 2 127 false rfl rfl (fun u w hd => .inl (congrArg some (After.get (V := vOf _) hd 2 _ rfl rfl))) (fun _ => rfl) (fun _ => rfl)) ?_
                  refine FSteps.cons (FStep.off_ 2 127 false rfl rfl (fun u w hd => .inl (congrArg some (After.get (V := vOf _) hd 2 _ rfl rfl))) (fun _ => rfl) (fun _ => rfl)) ?_
                  refine FSteps.cons (FStep.off_ 2 127 false rfl rfl (fun u w hd => .inl (congrArg some (After.get (V := vOf _) hd 0 _ rfl rfl))) (fun _ => rfl) (fun _ => rfl)) ?_
                  refine FSteps.cons (FStep.off_ 2 127 false rfl rfl (fun u w hd => .inl (congrArg some (After.get (V := vOf _) hd 1 _ rfl rfl))) (fun _ => rfl) (fun _ => rfl)) ?_
                  refine FSteps.cons (FStep.off_ 2 127 false rfl rfl (fun u w hd => .inl (congrArg some (After.get (V := vOf _) hd 2 _ rfl rfl))) (fun _ => rfl) (fun _ => rfl)) ?_
                  refine FSteps.cons (FStep.off_ 2 127 false rfl rfl (fun u w hd => .inl (congrArg some (After.get (V := vOf _) hd 2 _ rfl rfl))) (fun _ => rfl) (fun _ => rfl)) ?_
                  refine FSteps.cons (FStep.off_ 2 127 false rfl rfl (fun u w hd => .inl (congrArg some (After.get (V := vOf _) hd 2 _ rfl rfl))) (fun _ => rfl) (fun _ => rfl)) ?_
                  refine FSteps.cons (FStep.off_ 14 139 true rfl rfl (fun u w hd => .inr (congrArg some (After.get (V := vOf _) hd 0 _ rfl rfl))) (fun _ => rfl) (fun _ => rfl)) ?_
                  refine FSteps.cons (FStep.off_ 14 139 true rfl rfl (fun u w hd => .inr (congrArg some (After.get (V := vOf _) hd 1 _ rfl rfl))) (fun _ => rfl) (fun _ => rfl)) ?_
                  refine FSteps.cons (FStep.off_ 14 139 true rfl rfl (fun u w hd => .inr (congrArg some (After.get (V := vOf _) hd 1 _ rfl rfl))) (fun _ => rfl) (fun _ => rfl)) ?_
                  refine FSteps.cons (FStep.off_ 14 139 true rfl rfl (fun u w hd => .inr (congrArg some (After.get (V := vOf _) hd 0 _ rfl rfl))) (fun _ => rfl) (fun _ => rfl)) ?_
                  refine FSteps.cons (FStep.off_ 14 139 true rfl rfl (fun u w hd => .inr (congrArg some (After.get (V := vOf _) hd 1 _ rfl rfl))) (fun _ => rfl) (fun _ => rfl)) ?_
                  refine FSteps.cons (FStep.off_ 14 139 true rfl rfl (fun u w hd => .inr (congrArg some (After.get (V := vOf _) hd 1 _ rfl rfl))) (fun _ => rfl) (fun _ => rfl)) ?_
                  refine FSteps.cons (FStep.off_ 14 139 true rfl rfl (fun u w hd => .inr (congrArg some (After.get (V := vOf _) hd 2 _ rfl rfl))) (fun _ => rfl) (fun _ => rfl)) ?_
                  refine FSteps.cons (FStep.off_ 14 139 true rfl rfl (fun u w hd => .inr (congrArg some (After.get (V := vOf _) hd 0 _ rfl rfl))) (fun _ => rfl) (fun _ => rfl)) ?_
                  refine FSteps.cons (FStep.off_ 14 139 true rfl rfl (fun u w hd => .inr (congrArg some (After.get (V := vOf _) hd 1 _ rfl rfl))) (fun _ => rfl) (fun _ => rfl)) ?_
                  refine FSteps.cons (FStep.off_ 14 139 true rfl rfl (fun u w hd => .inr (congrArg some (After.get (V := vOf _) hd 1 _ rfl rfl))) (fun _ => rfl) (fun _ => rfl)) ?_
                  refine FSteps.cons (FStep.off_ 14 139 true rfl rfl (fun u w hd => .inr (congrArg some (After.get (V := vOf _) hd 1 _ rfl rfl))) (fun _ => rfl) (fun _ => rfl)) ?_
                  refine FSteps.cons (FStep.off_ 14 139 true rfl rfl (fun u w hd => .inr (congrArg some (After.get (V := vOf _) hd 2 _ rfl rfl))) (fun _ => rfl) (fun _ => rfl)) ?_
                  refine FSteps.cons (FStep.off_ 2 127 false rfl rfl (fun u w hd => .inl (congrArg some (After.get (V := vOf _) hd 2 _ rfl rfl))) (fun _ => rfl) (fun _ => rfl)) ?_
                  refine FSteps.cons (FStep.off_ 2 127 false rfl rfl (fun u w hd => .inl (congrArg some (After.get (V := vOf _) hd 2 _ rfl rfl))) (fun _ => rfl) (fun _ => rfl)) ?_
                  refine FSteps.cons (FStep.off_ 28 153 true rfl rfl (fun u w hd => .inr (congrArg some (After.get (V := vOf _) hd 0 _ rfl rfl))) (fun _ => rfl) (fun _ => rfl)) ?_
                  refine FSteps.cons (FStep.off_ 28 153 true rfl rfl (fun u w hd => .inr (congrArg some (After.get (V := vOf _) hd 1 _ rfl rfl))) (fun _ => rfl) (fun _ => rfl)) ?_
                  refine FSteps.cons (FStep.off_ 2 127 false rfl rfl (fun u w hd => .inl (congrArg some (After.get (V := vOf _) hd 2 _ rfl rfl))) (fun _ => rfl) (fun _ => rfl)) ?_
                  refine FSteps.cons (FStep.off_ 2 127 false rfl rfl (fun u w hd => .inl (congrArg some (After.get (V := vOf _) hd 2 _ rfl rfl))) (fun _ => rfl) (fun _ => rfl)) ?_
                  refine FSteps.cons (FStep.off_ 32 157 true rfl rfl (fun u w hd => .inr (congrArg some (After.get (V := vOf _) hd 0 _ rfl rfl))) (fun _ => rfl) (fun _ => rfl)) ?_
                  refine FSteps.cons (FStep.off_ 32 157 true rfl rfl (fun u w hd => .inr (congrArg some (After.get (V := vOf _) hd 1 _ rfl rfl))) (fun _ => rfl) (fun _ => rfl)) ?_
                  refine FSteps.cons (FStep.off_ 2 127 false rfl rfl (fun u w hd => .inl (congrArg some (After.get (V := vOf _) hd 2 _ rfl rfl))) (fun _ => rfl) (fun _ => rfl)) ?_
                  refine FSteps.cons (FStep.value (.bool true) (fun _ _ _ => wanted_none rfl) (fun _ _ => rfl) (fun _ => rfl) (fun u w hW hC (hd : After _ _ u w) ρ hρ => ?_)) ?_
                  · have r127 : ρ (.tmp 127) = .bool true := (by rw [hρ]; exact hd.get 0 _ rfl rfl); have r160 : ρ (.tmp 160) = undef := (by rw [hρ]; exact hd.get 1 _ rfl rfl); have rc : ∀ v, ρ (.const v) = v := (by subst hρ; exact fun _ => rfl); clear hρ hd
                    (go_simp; (try (first | exact wrap_in _ (by omega) (by omega) | omega)))
                  refine FSteps.cons (FStep.value (.bool true) (fun _ _ _ => wanted_none rfl) (fun _ _ => rfl) (fun _ => rfl) (fun u w hW hC (hd : After _ _ u w) ρ hρ => ?_)) ?_
                  · have r161 : ρ (.tmp 161) = .bool true := (by rw [hρ]; exact hd.get 0 _ rfl rfl); clear hρ hd
                    (go_simp; (try (first | exact wrap_in _ (by omega) (by omega) | omega)))
                  exact FSteps.nil
                case hV8 => (simp only [List.forall_mem_cons]; simp [stable_is])
                case fin8 =>
                  intro u w2 hW2 hC2 hd
                  have e37 : u 37 = .bool true := AllV.get _ 0 37 u w2 _ hd rfl
                  clear hd
                  refine then_normal ?_
                  go_step
                  refine wp_ret ?_
                  refine bodyPost_ret (results_tmp rfl _ _ _) rfl ?_
                  exact ⟨congrArg Ending.returned e37, (HX1.out.trans (hx14.trans hW2)).below⟩
          · obtain ⟨g1, g2, g3, g4⟩ := HP6.out rfl
            have HOA := hide g3
            have HOB := hide g4
            have f1 : IntKind.i64.wrap (DA + DB) = D := by rw [g1]; exact wrap_in _ (by omega) (by omega)
            have f2 : IntKind.i64.wrap ((NA : Int) + (NB : Int)) = (N : Int) + 2 := by rw [show (NA : Int) + (NB : Int) = (N : Int) + 2 by omega]; exact wrap_in _ (by omega) (by omega)
            have f3 : IntKind.i64.wrap ((N : Int) + 2) = (N : Int) + 2 := wrap_in _ (by omega) (by omega)
            have hnA : NA ≤ 1048576 := by omega
            have hnB : NB ≤ 1048576 := by omega
            clear g1 g2 g3 g4
            by_cases h3 : (3 : Int) < (N : Int)
            · go_wp2
              refine wp_flow (by kernel_rfl) (by kernel_rfl) (fun u => ⟨#[_, _, _, _, _, _, _, _, _, _, _, _, _, _, _, _, _, _, _, _, _, _, _, _, _, _, _, _, _, _, _, _, _, _, _, _, _, _, _, _, _, _, _, _, _, _, _, _, _, _, _, _, _, _, _, _, _, _, _, _, _, _, _, _, _, _, _, _, _, _, _, _, _, _, u 0, u 1, u 2, u 3, u 4, u 5, u 6, u 7, u 8, u 9, u 10, u 11, u 12, u 13, u 14, u 15, u 16, u 17, u 18, u 19, u 20, u 21, u 22, u 23, u 24, u 25, u 26, u 27, u 28, u 29, u 30, u 31, u 32, u 33, u 34, u 35, u 36, u 37, u 38, u 39, u 40, u 41, u 42, u 43, u 44, u 45, u 46, u 47, u 48, u 49, u 50, _, _, _, _, _, _, _, _, _, _, _, _, _, _, _, _, _, _, _, _, _, _, _, _, _, _, _, _, _, _, _, _, _, _, _, _, _], _⟩) (fun i => List.getD [_, _, _, _, _, _, _, _, _, _, _, _, _, _, _, _, _, _, _, _, _, _, _, _, _, _, _, _, _, _, _, _, _, _, _, _, _, _, _, _, _, _, _, _, _, _, _, _, _, _, _] i undef) [is (.bool true), is (.agg #[.slice (some ⟨gA, gO, none⟩) N c1]), is (.int .i64 ((k : Int))), is (.int .i64 ((i : Int))), is (.bool true), is (.bool false), is (.bool false), is (.bool true), is (.bool true), is (.bool false), is (.bool false), is (.bool false), is (.bool true), is (.bool true), is (.agg #[.slice (some ⟨gA, gO, none⟩) N c1]), is (.pointer (some ⟨b3, 0, none⟩)), is (.slice (some ⟨gA, gO, none⟩) N c1), is (.int .i64 ((i : Int))), is (.pointer (some ⟨gA, gO + i * 2, none⟩)), is (.agg #[.int .i64 Xi, .int .i64 Yi]), is (.pointer (some ⟨b3, 0, none⟩)), is (.slice (some ⟨gA, gO, none⟩) N c1), is (.int .i64 ((k : Int))), is (.pointer (some ⟨gA, gO + k * 2, none⟩)), is (.agg #[.int .i64 Xk, .int .i64 Yk]), is (.bool true), is (.bool false), is (.bool false), is (.bool false), is (.bool false), is (.bool true), is (.bool true), is (.bool true), is (.bool false), is (.bool false), is (.bool false), is (.bool false), is (.pointer (some ⟨b3, 0, none⟩)), is (.slice (some ⟨gA, gO, none⟩) N c1), is (.int .i64 ((N : Int))), is (.bool true), is (.bool true), is (.slice A3 Q c3), is (.int .i64 ((Q : Int))), is (.pointer (some ⟨b3, 0, none⟩)), is (.slice (some ⟨gA, gO, none⟩) N c1), is (.int .i64 ((N : Int))), is (.int .i64 ((N : Int) - 3)), is (.bool false), is (.bool false), is (.bool false)] (fun w' => (w'.cell? ⟨b3, 0, none⟩ = some (.slice (some ⟨gA, gO, none⟩) N c1) ∧ b3 < w'.heap.size) ∧ (w'.cell? ⟨gA, gO + i * 2, none⟩ = some (.int .i64 Xi) ∧ w'.cell? ⟨gA, gO + i * 2 + 1, none⟩ = some (.int .i64 Yi) ∧ gA < w'.heap.size) ∧ w'.cell? ⟨gA, gO + k * 2, none⟩ = some (.int .i64 Xk) ∧ w'.cell? ⟨gA, gO + k * 2 + 1, none⟩ = some (.int .i64 Yk)) _ rfl ?hC9 ?hs9 ?hV9 ?fin9
              case hC9 => exact fun w' hx => HXC.out w' hx
              case hs9 =>
                refine FSteps.cons (FStep.value (.bool true) (fun _ _ _ => wanted_none rfl) (fun _ _ => rfl) (fun _ => rfl) (fun u w hW hC (hd : After _ _ u w) ρ hρ => ?_)) ?_
                · have r6 : ρ (.tmp 6) = .bool true := (by subst hρ; rfl); clear hρ hd
                  (go_simp; (try (first | exact wrap_in _ (by omega) (by omega) | omega)))
                refine FSteps.cons (FStep.value (.agg #[.slice (some ⟨gA, gO, none⟩) N c1]) (fun _ _ _ => wanted_none rfl) (fun _ _ => rfl) (fun _ => rfl) (fun u w hW hC (hd : After _ _ u w) ρ hρ => ?_)) ?_
                · have r3 : ρ (.tmp 3) = .pointer (some ⟨b3, 0, none⟩) := (by subst hρ; rfl); clear hρ hd
                  (go_simp; (try (first | exact wrap_in _ (by omega) (by omega) | omega)))
                refine FSteps.cons (FStep.value (.int .i64 ((k : Int))) (fun _ _ _ => wanted_none rfl) (fun _ _ => rfl) (fun _ => rfl) (fun u w hW hC (hd : After _ _ u w) ρ hρ => ?_)) ?_
                · have r5 : ρ (.tmp 5) = .int .i64 ((k : Int)) := (by subst hρ; rfl); clear hρ hd
                  (go_simp; (try (first | exact wrap_in _ (by omega) (by omega) | omega)))
                refine FSteps.cons (FStep.value (.int .i64 ((i : Int))) (fun _ _ _ => wanted_none rfl) (fun _ _ => rfl) (fun _ => rfl) (fun u w hW hC (hd : After _ _ u w) ρ hρ => ?_)) ?_
                · have r4 : ρ (.tmp 4) = .int .i64 ((i : Int)) := (by subst hρ; rfl); clear hρ hd
                  (go_simp; (try (first | exact wrap_in _ (by omega) (by omega) | omega)))
                refine FSteps.cons (FStep.callC (.bool true) _ #[.agg #[.slice (some ⟨gA, gO, none⟩) N c1], .int .i64 ((k : Int)), .int .i64 ((i : Int))] (fun _ _ _ => wanted_none rfl) (fun _ _ => rfl) (fun _ => rfl) (fun u w hW hC (hd : After _ _ u w) ρ hρ => ?_) (fun w hW => IsDiagonal_at (some ⟨gA, gO, none⟩) L c1 N k i _ w HLN.out (HR1.out w (by (repeat (first | exact Ext.refl _ | assumption | apply Ext.alloc | apply Ext.drew | apply Ext.drewN | (refine Ext.trans ?_ (by assumption)))))) hn10 HP1.out)) ?_
                · have r75 : ρ (.tmp 75) = .agg #[.slice (some ⟨gA, gO, none⟩) N c1] := (by rw [hρ]; exact hd.get 0 _ rfl rfl); have r76 : ρ (.tmp 76) = .int .i64 ((k : Int)) := (by rw [hρ]; exact hd.get 1 _ rfl rfl); have r77 : ρ (.tmp 77) = .int .i64 ((i : Int)) := (by rw [hρ]; exact hd.get 2 _ rfl rfl); have rf : ∀ f, ρ (.func f) = .func (.func f) #[] #[] := (by subst hρ; exact fun _ => rfl); clear hρ hd
                  (go_simp; (try (first | exact wrap_in _ (by omega) (by omega) | omega)))
                refine FSteps.cons (FStep.value (.bool false) (fun _ _ _ => wanted_none rfl) (fun _ _ => rfl) (fun _ => rfl) (fun u w hW hC (hd : After _ _ u w) ρ hρ => ?_)) ?_
                · have r74 : ρ (.tmp 74) = .bool true := (by rw [hρ]; exact hd.get 0 _ rfl rfl); have r78 : ρ (.tmp 78) = .bool true := (by rw [hρ]; exact hd.get 1 _ rfl rfl); clear hρ hd
                  (go_simp; (try (first | exact wrap_in _ (by omega) (by omega) | omega)))
                refine FSteps.cons (FStep.value (.bool false) (fun _ _ _ => wanted_none rfl) (fun _ _ => rfl) (fun _ => rfl) (fun u w hW hC (hd : After _ _ u w) ρ hρ => ?_)) ?_
                · have r79 : ρ (.tmp 79) = .bool false := (by rw [hρ]; exact hd.get 0 _ rfl rfl); clear hρ hd
                  (go_simp; (try (first | exact wrap_in _ (by omega) (by omega) | omega)))
                refine FSteps.cons (FStep.value (.bool true) (fun u w hd => wanted_on 6 80 false rfl rfl (congrArg some (hd.get 0 _ rfl rfl))) (fun _ _ => rfl) (fun _ => rfl) (fun u w hW hC (hd : After _ _ u w) ρ hρ => ?_)) ?_
                · have r11 : ρ (.tmp 11) = .bool true := (by subst hρ; rfl); clear hρ hd
                  (go_simp; (try (first | exact wrap_in _ (by omega) (by omega) | omega)))
                refine FSteps.cons (FStep.value (.bool true) (fun u w hd => wanted_on 6 80 false rfl rfl (congrArg some (hd.get 0 _ rfl rfl))) (fun _ _ => rfl) (fun _ => rfl) (fun u w hW hC (hd : After _ _ u w) ρ hρ => ?_)) ?_
                · have r6 : ρ (.tmp 6) = .bool true := (by subst hρ; rfl); clear hρ hd
                  (go_simp; (try (first | exact wrap_in _ (by omega) (by omega) | omega)))
                refine FSteps.cons (FStep.value (.bool false) (fun u w hd => wanted_on 6 80 false rfl rfl (congrArg some (hd.get 2 _ rfl rfl))) (fun _ _ => rfl) (fun _ => rfl) (fun u w hW hC (hd : After _ _ u w) ρ hρ => ?_)) ?_
                · have r81 : ρ (.tmp 81) = .bool true := (by rw [hρ]; exact hd.get 0 _ rfl rfl); have r82 : ρ (.tmp 82) = .bool true := (by rw [hρ]; exact hd.get 1 _ rfl rfl); clear hρ hd
                  (go_simp; (try (first | exact wrap_in _ (by omega) (by omega) | omega)))
                refine FSteps.cons (FStep.value (.bool false) (fun _ _ _ => wanted_none rfl) (fun _ _ => rfl) (fun _ => rfl) (fun u w hW hC (hd : After _ _ u w) ρ hρ => ?_)) ?_
                · have r80 : ρ (.tmp 80) = .bool false := (by rw [hρ]; exact hd.get 0 _ rfl rfl); have r83 : ρ (.tmp 83) = .bool false := (by rw [hρ]; exact hd.get 1 _ rfl rfl); have rc : ∀ v, ρ (.const v) = v := (by subst hρ; exact fun _ => rfl); clear hρ hd
                  (go_simp; (try (first | exact wrap_in _ (by omega) (by omega) | omega)))
                refine FSteps.cons (FStep.value (.bool false) (fun _ _ _ => wanted_none rfl) (fun _ _ => rfl) (fun _ => rfl) (fun u w hW hC (hd : After _ _ u w) ρ hρ => ?_)) ?_
                · have r84 : ρ (.tmp 84) = .bool false := (by rw [hρ]; exact hd.get 0 _ rfl rfl); clear hρ hd
                  (go_simp; (try (first | exact wrap_in _ (by omega) (by omega) | omega)))
                refine FSteps.cons (FStep.value (.bool true) (fun u w hd => wanted_on 11 85 false rfl rfl (congrArg some (hd.get 0 _ rfl rfl))) (fun _ _ => rfl) (fun _ => rfl) (fun u w hW hC (hd : After _ _ u w) ρ hρ => ?_)) ?_
                · have r6 : ρ (.tmp 6) = .bool true := (by subst hρ; rfl); clear hρ hd
                  (go_simp; (try (first | exact wrap_in _ (by omega) (by omega) | omega)))
                refine FSteps.cons (FStep.value (.bool true) (fun u w hd => wanted_on 11 85 false rfl rfl (congrArg some (hd.get 1 _ rfl rfl))) (fun _ _ => rfl) (fun _ => rfl) (fun u w hW hC (hd : After _ _ u w) ρ hρ => ?_)) ?_
                · have r86 : ρ (.tmp 86) = .bool true := (by rw [hρ]; exact hd.get 0 _ rfl rfl); clear hρ hd
                  (go_simp; (try (first | exact wrap_in _ (by omega) (by omega) | omega)))
                refine FSteps.cons (FStep.value (.agg #[.slice (some ⟨gA, gO, none⟩) N c1]) (fun u w hd => wanted_on 13 87 true rfl rfl (congrArg some (hd.get 0 _ rfl rfl))) (fun _ _ => rfl) (fun _ => rfl) (fun u w hW hC (hd : After _ _ u w) ρ hρ => ?_)) ?_
                · have r3 : ρ (.tmp 3) = .pointer (some ⟨b3, 0, none⟩) := (by subst hρ; rfl); clear hρ hd
                  (go_simp; (try (first | exact wrap_in _ (by omega) (by omega) | omega)))
                refine FSteps.cons (FStep.value (.pointer (some ⟨b3, 0, none⟩)) (fun u w hd => wanted_on 13 87 true rfl rfl (congrArg some (hd.get 0 _ rfl rfl))) (fun _ _ => rfl) (fun _ => rfl) (fun u w hW hC (hd : After _ _ u w) ρ hρ => ?_)) ?_
                · have r3 : ρ (.tmp 3) = .pointer (some ⟨b3, 0, none⟩) := (by subst hρ; rfl); clear hρ hd
                  (go_simp; (try (first | exact wrap_in _ (by omega) (by omega) | omega)))
                refine FSteps.cons (FStep.value (.slice (some ⟨gA, gO, none⟩) N c1) (fun u w hd => wanted_on 13 87 true rfl rfl (congrArg some (hd.get 1 _ rfl rfl))) (fun _ _ => rfl) (fun _ => rfl) (fun u w hW hC (hd : After _ _ u w) ρ hρ => ?_)) ?_
                · have r89 : ρ (.tmp 89) = .pointer (some ⟨b3, 0, none⟩) := (by rw [hρ]; exact hd.get 0 _ rfl rfl); clear hρ hd
                  (go_simp; (try (first | exact wrap_in _ (by omega) (by omega) | omega)))
                refine FSteps.cons (FStep.value (.int .i64 ((i : Int))) (fun u w hd => wanted_on 13 87 true rfl rfl (congrArg some (hd.get 0 _ rfl rfl))) (fun _ _ => rfl) (fun _ => rfl) (fun u w hW hC (hd : After _ _ u w) ρ hρ => ?_)) ?_
                · have r4 : ρ (.tmp 4) = .int .i64 ((i : Int)) := (by subst hρ; rfl); clear hρ hd
                  (go_simp; (try (first | exact wrap_in _ (by omega) (by omega) | omega)))
                refine FSteps.cons (FStep.value (.pointer (some ⟨gA, gO + i * 2, none⟩)) (fun u w hd => wanted_on 13 87 true rfl rfl (congrArg some (hd.get 2 _ rfl rfl))) (fun _ _ => rfl) (fun _ => rfl) (fun u w hW hC (hd : After _ _ u w) ρ hρ => ?_)) ?_
                · have r90 : ρ (.tmp 90) = .slice (some ⟨gA, gO, none⟩) N c1 := (by rw [hρ]; exact hd.get 0 _ rfl rfl); have r91 : ρ (.tmp 91) = .int .i64 ((i : Int)) := (by rw [hρ]; exact hd.get 1 _ rfl rfl); clear hρ hd
                  (go_simp; (try (first | exact wrap_in _ (by omega) (by omega) | omega)))
                refine FSteps.cons (FStep.value (.agg #[.int .i64 Xi, .int .i64 Yi]) (fun u w hd => wanted_on 13 87 true rfl rfl (congrArg some (hd.get 1 _ rfl rfl))) (fun _ _ => rfl) (fun _ => rfl) (fun u w hW hC (hd : After _ _ u w) ρ hρ => ?_)) ?_
                · have r92 : ρ (.tmp 92) = .pointer (some ⟨gA, gO + i * 2, none⟩) := (by rw [hρ]; exact hd.get 0 _ rfl rfl); clear hρ hd
                  (go_simp; (try (first | exact wrap_in _ (by omega) (by omega) | omega)))
                refine FSteps.cons (FStep.value (.pointer (some ⟨b3, 0, none⟩)) (fun u w hd => wanted_on 13 87 true rfl rfl (congrArg some (hd.get 0 _ rfl rfl))) (fun _ _ => rfl) (fun _ => rfl) (fun u w hW hC (hd : After _ _ u w) ρ hρ => ?_)) ?_
                · have r3 : ρ (.tmp 3) = .pointer (some ⟨b3, 0, none⟩) := (by subst hρ; rfl); clear hρ hd
                  (go_simp; (try (first | exact wrap_in _ (by omega) (by omega) | omega)))
                refine FSteps.cons (FStep.value (.slice (some ⟨gA, gO, none⟩) N c1) (fun u w hd => wanted_on 13 87 true rfl rfl (congrArg some (hd.get 1 _ rfl rfl))) (fun _ _ => rfl) (fun _ => rfl) (fun u w hW hC (hd : After _ _ u w) ρ hρ => ?_)) ?_
                · have r94 : ρ (.tmp 94) = .pointer (some ⟨b3, 0, none⟩) := (by rw [hρ]; exact hd.get 0 _ rfl rfl); clear hρ hd
                  (go_simp; (try (first | exact wrap_in _ (by omega) (by omega) | omega)))
                refine FSteps.cons (FStep.value (.int .i64 ((k : Int))) (fun u w hd => wanted_on 13 87 true rfl rfl (congrArg some (hd.get 0 _ rfl rfl))) (fun _ _ => rfl) (fun _ => rfl) (fun u w hW hC (hd : After _ _ u w) ρ hρ => ?_)) ?_
                · have r5 : ρ (.tmp 5) = .int .i64 ((k : Int)) := (by subst hρ; rfl); clear hρ hd
                  (go_simp; (try (first | exact wrap_in _ (by omega) (by omega) | omega)))
                refine FSteps.cons (FStep.value (.pointer (some ⟨gA, gO + k * 2, none⟩)) (fun u w hd => wanted_on 13 87 true rfl rfl (congrArg some (hd.get 2 _ rfl rfl))) (fun _ _ => rfl) (fun _ => rfl) (fun u w hW hC (hd : After _ _ u w) ρ hρ => ?_)) ?_
                · have r95 : ρ (.tmp 95) = .slice (some ⟨gA, gO, none⟩) N c1 := (by rw [hρ]; exact hd.get 0 _ rfl rfl); have r96 : ρ (.tmp 96) = .int .i64 ((k : Int)) := (by rw [hρ]; exact hd.get 1 _ rfl rfl); clear hρ hd
                  (go_simp; (try (first | exact wrap_in _ (by omega) (by omega) | omega)))
                refine FSteps.cons (FStep.value (.agg #[.int .i64 Xk, .int .i64 Yk]) (fun u w hd => wanted_on 13 87 true rfl rfl (congrArg some (hd.get 1 _ rfl rfl))) (fun _ _ => rfl) (fun _ => rfl) (fun u w hW hC (hd : After _ _ u w) ρ hρ => ?_)) ?_
                · have r97 : ρ (.tmp 97) = .pointer (some ⟨gA, gO + k * 2, none⟩) := (by rw [hρ]; exact hd.get 0 _ rfl rfl); clear hρ hd
                  (go_simp; (try (first | exact wrap_in _ (by omega) (by omega) | omega)))
                refine FSteps.cons (FStep.callC (.bool true) _ #[.agg #[.slice (some ⟨gA, gO, none⟩) N c1], .agg #[.int .i64 Xi, .int .i64 Yi], .agg #[.int .i64 Xk, .int .i64 Yk]] (fun u w hd => wanted_on 13 87 true rfl rfl (congrArg some (hd.get 3 _ rfl rfl))) (fun _ _ => rfl) (fun _ => rfl) (fun u w hW hC (hd : After _ _ u w) ρ hρ => ?_) (fun w hW => Sees_at (some ⟨gA, gO, none⟩) L c1 N Xi Yi Xk Yk _ w HLN.out (HR1.out w (by (repeat (first | exact Ext.refl _ | assumption | apply Ext.alloc | apply Ext.drew | apply Ext.drewN | (refine Ext.trans ?_ (by assumption)))))) hn10 HSE.out)) ?_
                · have r88 : ρ (.tmp 88) = .agg #[.slice (some ⟨gA, gO, none⟩) N c1] := (by rw [hρ]; exact hd.get 0 _ rfl rfl); have r93 : ρ (.tmp 93) = .agg #[.int .i64 Xi, .int .i64 Yi] := (by rw [hρ]; exact hd.get 1 _ rfl rfl); have r98 : ρ (.tmp 98) = .agg #[.int .i64 Xk, .int .i64 Yk] := (by rw [hρ]; exact hd.get 2 _ rfl rfl); have rf : ∀ f, ρ (.func f) = .func (.func f) #[] #[] := (by subst hρ; exact fun _ => rfl); clear hρ hd
                  (go_simp; (try (first | exact wrap_in _ (by omega) (by omega) | omega)))
                refine FSteps.cons (FStep.value (.bool false) (fun u w hd => wanted_on 13 87 true rfl rfl (congrArg some (hd.get 1 _ rfl rfl))) (fun _ _ => rfl) (fun _ => rfl) (fun u w hW hC (hd : After _ _ u w) ρ hρ => ?_)) ?_
                · have r99 : ρ (.tmp 99) = .bool true := (by rw [hρ]; exact hd.get 0 _ rfl rfl); clear hρ hd
                  (go_simp; (try (first | exact wrap_in _ (by omega) (by omega) | omega)))
                refine FSteps.cons (FStep.value (.bool false) (fun u w hd => wanted_on 11 85 false rfl rfl (congrArg some (hd.get 2 _ rfl rfl))) (fun _ _ => rfl) (fun _ => rfl) (fun u w hW hC (hd : After _ _ u w) ρ hρ => ?_)) ?_
                · have r87 : ρ (.tmp 87) = .bool true := (by rw [hρ]; exact hd.get 0 _ rfl rfl); have r100 : ρ (.tmp 100) = .bool false := (by rw [hρ]; exact hd.get 1 _ rfl rfl); have rc : ∀ v, ρ (.const v) = v := (by subst hρ; exact fun _ => rfl); clear hρ hd
                  (go_simp; (try (first | exact wrap_in _ (by omega) (by omega) | omega)))
                refine FSteps.cons (FStep.value (.bool false) (fun _ _ _ => wanted_none rfl) (fun _ _ => rfl) (fun _ => rfl) (fun u w hW hC (hd : After _ _ u w) ρ hρ => ?_)) ?_
                · have r85 : ρ (.tmp 85) = .bool false := (by rw [hρ]; exact hd.get 0 _ rfl rfl); have r101 : ρ (.tmp 101) = .bool false := (by rw [hρ]; exact hd.get 1 _ rfl rfl); have rc : ∀ v, ρ (.const v) = v := (by subst hρ; exact fun _ => rfl); clear hρ hd
                  (go_simp; (try (first | exact wrap_in _ (by omega) (by omega) | omega)))
                refine FSteps.cons (FStep.value (.bool false) (fun _ _ _ => wanted_none rfl) (fun _ _ => rfl) (fun _ => rfl) (fun u w hW hC (hd : After _ _ u w) ρ hρ => ?_)) ?_
                · have r102 : ρ (.tmp 102) = .bool false := (by rw [hρ]; exact hd.get 0 _ rfl rfl); clear hρ hd
                  (go_simp; (try (first | exact wrap_in _ (by omega) (by omega) | omega)))
                refine FSteps.cons (FStep.value (.bool true) (fun u w hd => wanted_on 29 103 false rfl rfl (congrArg some (hd.get 0 _ rfl rfl))) (fun _ _ => rfl) (fun _ => rfl) (fun u w hW hC (hd : After _ _ u w) ρ hρ => ?_)) ?_
                · have r9 : ρ (.tmp 9) = .bool true := (by subst hρ; rfl); clear hρ hd
                  (go_simp; (try (first | exact wrap_in _ (by omega) (by omega) | omega)))
                refine FSteps.cons (FStep.value (.bool true) (fun u w hd => wanted_on 29 103 false rfl rfl (congrArg some (hd.get 1 _ rfl rfl))) (fun _ _ => rfl) (fun _ => rfl) (fun u w hW hC (hd : After _ _ u w) ρ hρ => ?_)) ?_
                · have r104 : ρ (.tmp 104) = .bool true := (by rw [hρ]; exact hd.get 0 _ rfl rfl); clear hρ hd
                  (go_simp; (try (first | exact wrap_in _ (by omega) (by omega) | omega)))
                refine FSteps.cons (FStep.value (.bool true) (fun u w hd => wanted_on 31 105 true rfl rfl (congrArg some (hd.get 0 _ rfl rfl))) (fun _ _ => rfl) (fun _ => rfl) (fun u w hW hC (hd : After _ _ u w) ρ hρ => ?_)) ?_
                · have r6 : ρ (.tmp 6) = .bool true := (by subst hρ; rfl); clear hρ hd
                  (go_simp; (try (first | exact wrap_in _ (by omega) (by omega) | omega)))
                refine FSteps.cons (FStep.value (.bool false) (fun u w hd => wanted_on 31 105 true rfl rfl (congrArg some (hd.get 1 _ rfl rfl))) (fun _ _ => rfl) (fun _ => rfl) (fun u w hW hC (hd : After _ _ u w) ρ hρ => ?_)) ?_
                · have r106 : ρ (.tmp 106) = .bool true := (by rw [hρ]; exact hd.get 0 _ rfl rfl); clear hρ hd
                  (go_simp; (try (first | exact wrap_in _ (by omega) (by omega) | omega)))
                refine FSteps.cons (FStep.value (.bool false) (fun u w hd => wanted_on 29 103 false rfl rfl (congrArg some (hd.get 2 _ rfl rfl))) (fun _ _ => rfl) (fun _ => rfl) (fun u w hW hC (hd : After _ _ u w) ρ hρ => ?_)) ?_
                · have r105 : ρ (.tmp 105) = .bool true := (by rw [hρ]; exact hd.get 0 _ rfl rfl); have r107 : ρ (.tmp 107) = .bool false := (by rw [hρ]; exact hd.get 1 _ rfl rfl); have rc : ∀ v, ρ (.const v) = v := (by subst hρ; exact fun _ => rfl); clear hρ hd
                  (go_simp; (try (first | exact wrap_in _ (by omega) (by omega) | omega)))
                refine FSteps.cons (FStep.value (.bool false) (fun _ _ _ => wanted_none rfl) (fun _ _ => rfl) (fun _ => rfl) (fun u w hW hC (hd : After _ _ u w) ρ hρ => ?_)) ?_
                · have r103 : ρ (.tmp 103) = .bool false := (by rw [hρ]; exact hd.get 0 _ rfl rfl); have r108 : ρ (.tmp 108) = .bool false := (by rw [hρ]; exact hd.get 1 _ rfl rfl); have rc : ∀ v, ρ (.const v) = v := (by subst hρ; exact fun _ => rfl); clear hρ hd
                  (go_simp; (try (first | exact wrap_in _ (by omega) (by omega) | omega)))
                refine FSteps.cons (FStep.value (.bool false) (fun _ _ _ => wanted_none rfl) (fun _ _ => rfl) (fun _ => rfl) (fun u w hW hC (hd : After _ _ u w) ρ hρ => ?_)) ?_
                · have r109 : ρ (.tmp 109) = .bool false := (by rw [hρ]; exact hd.get 0 _ rfl rfl); clear hρ hd
                  (go_simp; (try (first | exact wrap_in _ (by omega) (by omega) | omega)))
                refine FSteps.cons (FStep.value (.pointer (some ⟨b3, 0, none⟩)) (fun u w hd => wanted_on 36 110 false rfl rfl (congrArg some (hd.get 0 _ rfl rfl))) (fun _ _ => rfl) (fun _ => rfl) (fun u w hW hC (hd : After _ _ u w) ρ hρ => ?_)) ?_
                · have r3 : ρ (.tmp 3) = .pointer (some ⟨b3, 0, none⟩) := (by subst hρ; rfl); clear hρ hd
                  (go_simp; (try (first | exact wrap_in _ (by omega) (by omega) | omega)))
                refine FSteps.cons (FStep.value (.slice (some ⟨gA, gO, none⟩) N c1) (fun u w hd => wanted_on 36 110 false rfl rfl (congrArg some (hd.get 1 _ rfl rfl))) (fun _ _ => rfl) (fun _ => rfl) (fun u w hW hC (hd : After _ _ u w) ρ hρ => ?_)) ?_
                · have r111 : ρ (.tmp 111) = .pointer (some ⟨b3, 0, none⟩) := (by rw [hρ]; exact hd.get 0 _ rfl rfl); clear hρ hd
                  (go_simp; (try (first | exact wrap_in _ (by omega) (by omega) | omega)))
                refine FSteps.cons (FStep.value (.int .i64 ((N : Int))) (fun u w hd => wanted_on 36 110 false rfl rfl (congrArg some (hd.get 1 _ rfl rfl))) (fun _ _ => rfl) (fun _ => rfl) (fun u w hW hC (hd : After _ _ u w) ρ hρ => ?_)) ?_
                · have r112 : ρ (.tmp 112) = .slice (some ⟨gA, gO, none⟩) N c1 := (by rw [hρ]; exact hd.get 0 _ rfl rfl); clear hρ hd
                  (go_simp; (try (first | exact wrap_in _ (by omega) (by omega) | omega)))
                refine FSteps.cons (FStep.value (.bool true) (fun u w hd => wanted_on 36 110 false rfl rfl (congrArg some (hd.get 1 _ rfl rfl))) (fun _ _ => rfl) (fun _ => rfl) (fun u w hW hC (hd : After _ _ u w) ρ hρ => ?_)) ?_
                · have r113 : ρ (.tmp 113) = .int .i64 ((N : Int)) := (by rw [hρ]; exact hd.get 0 _ rfl rfl); have rc : ∀ v, ρ (.const v) = v := (by subst hρ; exact fun _ => rfl); clear hρ hd
                  (go_simp; (try (first | exact wrap_in _ (by omega) (by omega) | omega)))
                refine FSteps.cons (FStep.value (.bool true) (fun u w hd => wanted_on 36 110 false rfl rfl (congrArg some (hd.get 1 _ rfl rfl))) (fun _ _ => rfl) (fun _ => rfl) (fun u w hW hC (hd : After _ _ u w) ρ hρ => ?_)) ?_
                · have r114 : ρ (.tmp 114) = .bool true := (by rw [hρ]; exact hd.get 0 _ rfl rfl); clear hρ hd
                  (go_simp; (try (first | exact wrap_in _ (by omega) (by omega) | omega)))
                refine FSteps.cons (FStep.value (.slice A3 Q c3) (fun u w hd => wanted_on 41 115 true rfl rfl (congrArg some (hd.get 0 _ rfl rfl))) (fun _ _ => rfl) (fun _ => rfl) (fun u w hW hC (hd : After _ _ u w) ρ hρ => ?_)) ?_
                · have r10 : ρ (.tmp 10) = .slice A3 Q c3 := (by subst hρ; rfl); clear hρ hd
                  (go_simp; (try (first | exact wrap_in _ (by omega) (by omega) | omega)))
                refine FSteps.cons (FStep.value (.int .i64 ((Q : Int))) (fun u w hd => wanted_on 41 115 true rfl rfl (congrArg some (hd.get 1 _ rfl rfl))) (fun _ _ => rfl) (fun _ => rfl) (fun u w hW hC (hd : After _ _ u w) ρ hρ => ?_)) ?_
                · have r116 : ρ (.tmp 116) = .slice A3 Q c3 := (by rw [hρ]; exact hd.get 0 _ rfl rfl); clear hρ hd
                  (go_simp; (try (first | exact wrap_in _ (by omega) (by omega) | omega)))
                refine FSteps.cons (FStep.value (.pointer (some ⟨b3, 0, none⟩)) (fun u w hd => wanted_on 41 115 true rfl rfl (congrArg some (hd.get 0 _ rfl rfl))) (fun _ _ => rfl) (fun _ => rfl) (fun u w hW hC (hd : After _ _ u w) ρ hρ => ?_)) ?_
                · have r3 : ρ (.tmp 3) = .pointer (some ⟨b3, 0, none⟩) := (by subst hρ; rfl); clear hρ hd
                  (go_simp; (try (first | exact wrap_in _ (by omega) (by omega) | omega)))
                refine FSteps.cons (FStep.value (.slice (some ⟨gA, gO, none⟩) N c1) (fun u w hd => wanted_on 41 115 true rfl rfl (congrArg some (hd.get 1 _ rfl rfl))) (fun _ _ => rfl) (fun _ => rfl) (fun u w hW hC (hd : After _ _ u w) ρ hρ => ?_)) ?_
                · have r118 : ρ (.tmp 118) = .pointer (some ⟨b3, 0, none⟩) := (by rw [hρ]; exact hd.get 0 _ rfl rfl); clear hρ hd
                  (go_simp; (try (first | exact wrap_in _ (by omega) (by omega) | omega)))
                refine FSteps.cons (FStep.value (.int .i64 ((N : Int))) (fun u w hd => wanted_on 41 115 true rfl rfl (congrArg some (hd.get 1 _ rfl rfl))) (fun _ _ => rfl) (fun _ => rfl) (fun u w hW hC (hd : After _ _ u w) ρ hρ => ?_)) ?_
                · have r119 : ρ (.tmp 119) = .slice (some ⟨gA, gO, none⟩) N c1 := (by rw [hρ]; exact hd.get 0 _ rfl rfl); clear hρ hd
                  (go_simp; (try (first | exact wrap_in _ (by omega) (by omega) | omega)))
                refine FSteps.cons (FStep.value (.int .i64 ((N : Int) - 3)) (fun u w hd => wanted_on 41 115 true rfl rfl (congrArg some (hd.get 1 _ rfl rfl))) (fun _ _ => rfl) (fun _ => rfl) (fun u w hW hC (hd : After _ _ u w) ρ hρ => ?_)) ?_
                · have r120 : ρ (.tmp 120) = .int .i64 ((N : Int)) := (by rw [hρ]; exact hd.get 0 _ rfl rfl); have rc : ∀ v, ρ (.const v) = v := (by subst hρ; exact fun _ => rfl); clear hρ hd
                  (go_simp; (try (first | exact wrap_in _ (by omega) (by omega) | omega)))
                refine FSteps.cons (FStep.value (.bool false) (fun u w hd => wanted_on 41 115 true rfl rfl (congrArg some (hd.get 2 _ rfl rfl))) (fun _ _ => rfl) (fun _ => rfl) (fun u w hW hC (hd : After _ _ u w) ρ hρ => ?_)) ?_
                · have r117 : ρ (.tmp 117) = .int .i64 ((Q : Int)) := (by rw [hρ]; exact hd.get 0 _ rfl rfl); have r121 : ρ (.tmp 121) = .int .i64 ((N : Int) - 3) := (by rw [hρ]; exact hd.get 1 _ rfl rfl); clear hρ hd
                  (go_simp; (try (first | exact wrap_in _ (by omega) (by omega) | omega)))
                refine FSteps.cons (FStep.value (.bool false) (fun u w hd => wanted_on 36 110 false rfl rfl (congrArg some (hd.get 2 _ rfl rfl))) (fun _ _ => rfl) (fun _ => rfl) (fun u w hW hC (hd : After _ _ u w) ρ hρ => ?_)) ?_
                · have r115 : ρ (.tmp 115) = .bool true := (by rw [hρ]; exact hd.get 0 _ rfl rfl); have r122 : ρ (.tmp 122) = .bool false := (by rw [hρ]; exact hd.get 1 _ rfl rfl); have rc : ∀ v, ρ (.const v) = v := (by subst hρ; exact fun _ => rfl); clear hρ hd
                  (go_simp; (try (first | exact wrap_in _ (by omega) (by omega) | omega)))
                refine FSteps.cons (FStep.value (.bool false) (fun _ _ _ => wanted_none rfl) (fun _ _ => rfl) (fun _ => rfl) (fun u w hW hC (hd : After _ _ u w) ρ hρ => ?_)) ?_
                · have r110 : ρ (.tmp 110) = .bool false := (by rw [hρ]; exact hd.get 0 _ rfl rfl); have r123 : ρ (.tmp 123) = .bool false := (by rw [hρ]; exact hd.get 1 _ rfl rfl); have rc : ∀ v, ρ (.const v) = v := (by subst hρ; exact fun _ => rfl); clear hρ hd
                  (go_simp; (try (first | exact wrap_in _ (by omega) (by omega) | omega)))
                exact FSteps.nil
              case hV9 => (simp only [List.forall_mem_cons]; simp [stable_is])
              case fin9 =>
                intro u w2 hW2 hC2 hd
                have e50 : u 50 = .bool false := AllV.get _ 0 50 u w2 _ hd rfl
                clear hd
                obtain ⟨we, rfl⟩ : ∃ we : World, we = w2 := ⟨_, rfl⟩
                have hx14 := hW2
                simp only [e50]
                clear hC2 hW2
                go_wp2
                refine wp_flow (by kernel_rfl) (by kernel_rfl) (fun u => ⟨#[_, _, u 37, _, _, _, _, _, _, _, _, _, _, _, _, _, _, _, _, _, _, _, _, _, _, _, _, _, _, _, _, _, _, _, _, _, _, _, _, _, _, _, _, _, _, _, _, _, _, _, _, _, _, _, _, _, _, _, _, _, _, _, _, _, _, _, _, _, _, _, _, _, _, _, _, _, _, _, _, _, _, _, _, _, _, _, _, _, _, _, _, _, _, _, _, _, _, _, _, _, _, _, _, _, _, _, _, _, _, _, _, _, _, _, _, _, _, _, _, _, _, _, _, _, _, u 0, u 1, u 2, u 3, u 4, u 5, u 6, u 7, u 8, u 9, u 10, u 11, u 12, u 13, u 14, u 15, u 16, u 17, u 18, u 19, u 20, u 21, u 22, u 23, u 24, u 25, u 26, u 27, u 28, u 29, u 30, u 31, u 32, u 33, u 34, u 35, u 36], _⟩) (fun i => List.getD [_, _, _, _, _, _, _, _, _, _, _, _, _, _, _, _, _, _, _, _, _, _, _, _, _, _, _, _, _, _, _, _, _, _, _, _, _, _] i undef) [is (.bool true), is (.bool false), is (.bool false), is (.pointer (some ⟨b7, 0, none⟩)), is (.slice A1 NA cA), is (.int .i64 (DA)), is (.pointer (some ⟨b8, 0, none⟩)), is (.slice A2 NB cB), is (.int .i64 (DB)), is (.int .i64 (D)), is (.pointer (some ⟨b3, 0, none⟩)), is (.slice (some ⟨gA, gO, none⟩) N c1), is (.int .i64 (D)), is (.bool true), is (.bool true), is (.pointer (some ⟨b7, 0, none⟩)), is (.slice A1 NA cA), is (.int .i64 ((NA : Int))), is (.pointer (some ⟨b8, 0, none⟩)), is (.slice A2 NB cB), is (.int .i64 ((NB : Int))), is (.int .i64 ((N : Int) + 2)), is (.pointer (some ⟨b3, 0, none⟩)), is (.slice (some ⟨gA, gO, none⟩) N c1), is (.int .i64 ((N : Int))), is (.int .i64 ((N : Int) + 2)), is (.bool true), is (.bool true), is (.bool true), is (.agg #[.slice A1 NA cA]), is (.bool true), is (.bool true), is (.bool true), is (.agg #[.slice A2 NB cB]), is (.bool true), is (.bool true), is (.bool true), is (.bool true)] (fun w' => (w'.cell? ⟨b3, 0, none⟩ = some (.slice (some ⟨gA, gO, none⟩) N c1) ∧ b3 < w'.heap.size) ∧ (w'.cell? ⟨b7, 0, none⟩ = some (.slice A1 NA cA) ∧ b7 < w'.heap.size) ∧ w'.cell? ⟨b8, 0, none⟩ = some (.slice A2 NB cB) ∧ b8 < w'.heap.size) _ rfl ?hC10 ?hs10 ?hV10 ?fin10
                case hC10 => exact fun w' hx => HB1.out w' (hx14.trans hx)
                case hs10 =>
                  refine FSteps.cons (FStep.value (.bool true) (fun _ _ _ => wanted_none rfl) (fun _ _ => rfl) (fun _ => rfl) (fun u w hW hC (hd : After _ _ u w) ρ hρ => ?_)) ?_
                  · have r9 : ρ (.tmp 9) = .bool true := (by subst hρ; rfl); clear hρ hd
                    (go_simp; (try (first | exact wrap_in _ (by omega) (by omega) | omega)))
                  refine FSteps.cons (FStep.value (.bool false) (fun _ _ _ => wanted_none rfl) (fun _ _ => rfl) (fun _ => rfl) (fun u w hW hC (hd : After _ _ u w) ρ hρ => ?_)) ?_
                  · have r125 : ρ (.tmp 125) = .bool true := (by rw [hρ]; exact hd.get 0 _ rfl rfl); clear hρ hd
                    (go_simp; (try (first | exact wrap_in _ (by omega) (by omega) | omega)))
                  refine FSteps.cons (FStep.value (.bool false) (fun _ _ _ => wanted_none rfl) (fun _ _ => rfl) (fun _ => rfl) (fun u w hW hC (hd : After _ _ u w) ρ hρ => ?_)) ?_
                  · have r126 : ρ (.tmp 126) = .bool false := (by rw [hρ]; exact hd.get 0 _ rfl rfl); clear hρ hd
                    (go_simp; (try (first | exact wrap_in _ (by omega) (by omega) | omega)))
                  refine FSteps.cons (FStep.value (.pointer (some ⟨b7, 0, none⟩)) (fun u w hd => wanted_on 2 127 false rfl rfl (congrArg some (hd.get 0 _ rfl rfl))) (fun _ _ => rfl) (fun _ => rfl) (fun u w hW hC (hd : After _ _ u w) ρ hρ => ?_)) ?_
                  · have r7 : ρ (.tmp 7) = .pointer (some ⟨b7, 0, none⟩) := (by subst hρ; rfl); clear hρ hd
                    (go_simp; (try (first | exact wrap_in _ (by omega) (by omega) | omega)))
                  refine FSteps.cons (FStep.value (.slice A1 NA cA) (fun u w hd => wanted_on 2 127 false rfl rfl (congrArg some (hd.get 1 _ rfl rfl))) (fun _ _ => rfl) (fun _ => rfl) (fun u w hW hC (hd : After _ _ u w) ρ hρ => ?_)) ?_
                  · have r128 : ρ (.tmp 128) = .pointer (some ⟨b7, 0, none⟩) := (by rw [hρ]; exact hd.get 0 _ rfl rfl); clear hρ hd
                    (go_simp; (try (first | exact wrap_in _ (by omega) (by omega) | omega)))
                  refine FSteps.cons (FStep.callC (.int .i64 (DA)) _ #[.slice A1 NA cA] (fun u w hd => wanted_on 2 127 false rfl rfl (congrArg some (hd.get 1 _ rfl rfl))) (fun _ _ => rfl) (fun _ => rfl) (fun u w hW hC (hd : After _ _ u w) ρ hρ => ?_) (fun w hW => DoubleArea_at2 A1 CA cA NA _ w HNA.out (HRA1.out w (by (repeat (first | exact Ext.refl _ | assumption | apply Ext.alloc | apply Ext.drew | apply Ext.drewN | (refine Ext.trans ?_ (by assumption)))))) hnA HDA.out)) ?_
                  · have r129 : ρ (.tmp 129) = .slice A1 NA cA := (by rw [hρ]; exact hd.get 0 _ rfl rfl); have rf : ∀ f, ρ (.func f) = .func (.func f) #[] #[] := (by subst hρ; exact fun _ => rfl); clear hρ hd
                    (go_simp; (try (first | exact wrap_in _ (by omega) (by omega) | omega)))
                  refine FSteps.cons (FStep.value (.pointer (some ⟨b8, 0, none⟩)) (fun u w hd => wanted_on 2 127 false rfl rfl (congrArg some (hd.get 0 _ rfl rfl))) (fun _ _ => rfl) (fun _ => rfl) (fun u w hW hC (hd : After _ _ u w) ρ hρ => ?_)) ?_
                  · have r8 : ρ (.tmp 8) = .pointer (some ⟨b8, 0, none⟩) := (by subst hρ; rfl); clear hρ hd
                    (go_simp; (try (first | exact wrap_in _ (by omega) (by omega) | omega)))
                  refine FSteps.cons (FStep.value (.slice A2 NB cB) (fun u w hd => wanted_on 2 127 false rfl rfl (congrArg some (hd.get 1 _ rfl rfl))) (fun _ _ => rfl) (fun _ => rfl) (fun u w hW hC (hd : After _ _ u w) ρ hρ => ?_)) ?_
                  · have r131 : ρ (.tmp 131) = .pointer (some ⟨b8, 0, none⟩) := (by rw [hρ]; exact hd.get 0 _ rfl rfl); clear hρ hd
                    (go_simp; (try (first | exact wrap_in _ (by omega) (by omega) | omega)))
                  refine FSteps.cons (FStep.callC (.int .i64 (DB)) _ #[.slice A2 NB cB] (fun u w hd => wanted_on 2 127 false rfl rfl (congrArg some (hd.get 2 _ rfl rfl))) (fun _ _ => rfl) (fun _ => rfl) (fun u w hW hC (hd : After _ _ u w) ρ hρ => ?_) (fun w hW => DoubleArea_at2 A2 CB cB NB _ w HNB.out (HRB1.out w (by (repeat (first | exact Ext.refl _ | assumption | apply Ext.alloc | apply Ext.drew | apply Ext.drewN | (refine Ext.trans ?_ (by assumption)))))) hnB HDB.out)) ?_
                  · have r132 : ρ (.tmp 132) = .slice A2 NB cB := (by rw [hρ]; exact hd.get 0 _ rfl rfl); have rf : ∀ f, ρ (.func f) = .func (.func f) #[] #[] := (by subst hρ; exact fun _ => rfl); clear hρ hd
                    (go_simp; (try (first | exact wrap_in _ (by omega) (by omega) | omega)))
                  refine FSteps.cons (FStep.value (.int .i64 (D)) (fun u w hd => wanted_on 2 127 false rfl rfl (congrArg some (hd.get 2 _ rfl rfl))) (fun _ _ => rfl) (fun _ => rfl) (fun u w hW hC (hd : After _ _ u w) ρ hρ => ?_)) ?_
                  · have r130 : ρ (.tmp 130) = .int .i64 (DA) := (by rw [hρ]; exact hd.get 0 _ rfl rfl); have r133 : ρ (.tmp 133) = .int .i64 (DB) := (by rw [hρ]; exact hd.get 1 _ rfl rfl); clear hρ hd
                    (go_simp; (try (first | exact wrap_in _ (by omega) (by omega) | omega)))
                  refine FSteps.cons (FStep.value (.pointer (some ⟨b3, 0, none⟩)) (fun u w hd => wanted_on 2 127 false rfl rfl (congrArg some (hd.get 0 _ rfl rfl))) (fun _ _ => rfl) (fun _ => rfl) (fun u w hW hC (hd : After _ _ u w) ρ hρ => ?_)) ?_
                  · have r3 : ρ (.tmp 3) = .pointer (some ⟨b3, 0, none⟩) := (by subst hρ; rfl); clear hρ hd
                    (go_simp; (try (first | exact wrap_in _ (by omega) (by omega) | omega)))
                  refine FSteps.cons (FStep.value (.slice (some ⟨gA, gO, none⟩) N c1) (fun u w hd => wanted_on 2 127 false rfl rfl (congrArg some (hd.get 1 _ rfl rfl))) (fun _ _ => rfl) (fun _ => rfl) (fun u w hW hC (hd : After _ _ u w) ρ hρ => ?_)) ?_
                  · have r135 : ρ (.tmp 135) = .pointer (some ⟨b3, 0, none⟩) := (by rw [hρ]; exact hd.get 0 _ rfl rfl); clear hρ hd
                    (go_simp; (try (first | exact wrap_in _ (by omega) (by omega) | omega)))
                  refine FSteps.cons (FStep.callC (.int .i64 (D)) _ #[.slice (some ⟨gA, gO, none⟩) N c1] (fun u w hd => wanted_on 2 127 false rfl rfl (congrArg some (hd.get 2 _ rfl rfl))) (fun _ _ => rfl) (fun _ => rfl) (fun u w hW hC (hd : After _ _ u w) ρ hρ => ?_) (fun w hW => DoubleArea_at2 (some ⟨gA, gO, none⟩) L c1 N _ w HLN.out (HR1.out w (by (repeat (first | exact Ext.refl _ | assumption | apply Ext.alloc | apply Ext.drew | apply Ext.drewN | (refine Ext.trans ?_ (by assumption)))))) hn10 HDD.out)) ?_
                  · have r136 : ρ (.tmp 136) = .slice (some ⟨gA, gO, none⟩) N c1 := (by rw [hρ]; exact hd.get 0 _ rfl rfl); have rf : ∀ f, ρ (.func f) = .func (.func f) #[] #[] := (by subst hρ; exact fun _ => rfl); clear hρ hd
                    (go_simp; (try (first | exact wrap_in _ (by omega) (by omega) | omega)))
                  refine FSteps.cons (FStep.value (.bool true) (fun u w hd => wanted_on 2 127 false rfl rfl (congrArg some (hd.get 2 _ rfl rfl))) (fun _ _ => rfl) (fun _ => rfl) (fun u w hW hC (hd : After _ _ u w) ρ hρ => ?_)) ?_
                  · have r134 : ρ (.tmp 134) = .int .i64 (D) := (by rw [hρ]; exact hd.get 0 _ rfl rfl); have r137 : ρ (.tmp 137) = .int .i64 (D) := (by rw [hρ]; exact hd.get 1 _ rfl rfl); clear hρ hd
                    (go_simp; (try (first | exact wrap_in _ (by omega) (by omega) | omega)))
                  refine FSteps.cons (FStep.value (.bool true) (fun u w hd => wanted_on 2 127 false rfl rfl (congrArg some (hd.get 2 _ rfl rfl))) (fun _ _ => rfl) (fun _ => rfl) (fun u w hW hC (hd : After _ _ u w) ρ hρ => ?_)) ?_
                  · have r138 : ρ (.tmp 138) = .bool true := (by rw [hρ]; exact hd.get 0 _ rfl rfl); clear hρ hd
                    (go_simp; (try (first | exact wrap_in _ (by omega) (by omega) | omega)))
                  refine FSteps.cons (FStep.value (.pointer (some ⟨b7, 0, none⟩)) (fun u w hd => wanted_on 14 139 true rfl rfl (congrArg some (hd.get 0 _ rfl rfl))) (fun _ _ => rfl) (fun _ => rfl) (fun u w hW hC (hd : After _ _ u w) ρ hρ => ?_)) ?_
                  · have r7 : ρ (.tmp 7) = .pointer (some ⟨b7, 0, none⟩) := (by subst hρ; rfl); clear hρ hd
                    (go_simp; (try (first | exact wrap_in _ (by omega) (by omega) | omega)))
                  refine FSteps.cons (FStep.value (.slice A1 NA cA) (fun u w hd => wanted_on 14 139 true rfl rfl (congrArg some (hd.get 1 _ rfl rfl))) (fun _ _ => rfl) (fun _ => rfl) (fun u w hW hC (hd : After _ _ u w) ρ hρ => ?_)) ?_
                  · have r140 : ρ (.tmp 140) = .pointer (some ⟨b7, 0, none⟩) := (by rw [hρ]; exact hd.get 0 _ rfl rfl); clear hρ hd
                    (go_simp; (try (first | exact wrap_in _ (by omega) (by omega) | omega)))
                  refine FSteps.cons (FStep.value (.int .i64 ((NA : Int))) (fun u w hd => wanted_on 14 139 true rfl rfl (congrArg some (hd.get 1 _ rfl rfl))) (fun _ _ => rfl) (fun _ => rfl) (fun u w hW hC (hd : After _ _ u w) ρ hρ => ?_)) ?_
                  · have r141 : ρ (.tmp 141) = .slice A1 NA cA := (by rw [hρ]; exact hd.get 0 _ rfl rfl); clear hρ hd
                    (go_simp; (try (first | exact wrap_in _ (by omega) (by omega) | omega)))
                  refine FSteps.cons (FStep.value (.pointer (some ⟨b8, 0, none⟩)) (fun u w hd => wanted_on 14 139 true rfl rfl (congrArg some (hd.get 0 _ rfl rfl))) (fun _ _ => rfl) (fun _ => rfl) (fun u w hW hC (hd : After _ _ u w) ρ hρ => ?_)) ?_
                  · have r8 : ρ (.tmp 8) = .pointer (some ⟨b8, 0, none⟩) := (by subst hρ; rfl); clear hρ hd
                    (go_simp; (try (first | exact wrap_in _ (by omega) (by omega) | omega)))
                  refine FSteps.cons (FStep.value (.slice A2 NB cB) (fun u w hd => wanted_on 14 139 true rfl rfl (congrArg some (hd.get 1 _ rfl rfl))) (fun _ _ => rfl) (fun _ => rfl) (fun u w hW hC (hd : After _ _ u w) ρ hρ => ?_)) ?_
                  · have r143 : ρ (.tmp 143) = .pointer (some ⟨b8, 0, none⟩) := (by rw [hρ]; exact hd.get 0 _ rfl rfl); clear hρ hd
                    (go_simp; (try (first | exact wrap_in _ (by omega) (by omega) | omega)))
                  refine FSteps.cons (FStep.value (.int .i64 ((NB : Int))) (fun u w hd => wanted_on 14 139 true rfl rfl (congrArg some (hd.get 1 _ rfl rfl))) (fun _ _ => rfl) (fun _ => rfl) (fun u w hW hC (hd : After _ _ u w) ρ hρ => ?_)) ?_
                  · have r144 : ρ (.tmp 144) = .slice A2 NB cB := (by rw [hρ]; exact hd.get 0 _ rfl rfl); clear hρ hd
                    (go_simp; (try (first | exact wrap_in _ (by omega) (by omega) | omega)))
                  refine FSteps.cons (FStep.value (.int .i64 ((N : Int) + 2)) (fun u w hd => wanted_on 14 139 true rfl rfl (congrArg some (hd.get 2 _ rfl rfl))) (fun _ _ => rfl) (fun _ => rfl) (fun u w hW hC (hd : After _ _ u w) ρ hρ => ?_)) ?_
                  · have r142 : ρ (.tmp 142) = .int .i64 ((NA : Int)) := (by rw [hρ]; exact hd.get 0 _ rfl rfl); have r145 : ρ (.tmp 145) = .int .i64 ((NB : Int)) := (by rw [hρ]; exact hd.get 1 _ rfl rfl); clear hρ hd
                    (go_simp; (try (first | exact wrap_in _ (by omega) (by omega) | omega)))
                  refine FSteps.cons (FStep.value (.pointer (some ⟨b3, 0, none⟩)) (fun u w hd => wanted_on 14 139 true rfl rfl (congrArg some (hd.get 0 _ rfl rfl))) (fun _ _ => rfl) (fun _ => rfl) (fun u w hW hC (hd : After _ _ u w) ρ hρ => ?_)) ?_
                  · have r3 : ρ (.tmp 3) = .pointer (some ⟨b3, 0, none⟩) := (by subst hρ; rfl); clear hρ hd
                    (go_simp; (try (first | exact wrap_in _ (by omega) (by omega) | omega)))
                  refine FSteps.cons (FStep.value (.slice (some ⟨gA, gO, none⟩) N c1) (fun u w hd => wanted_on 14 139 true rfl rfl (congrArg some (hd.get 1 _ rfl rfl))) (fun _ _ => rfl) (fun _ => rfl) (fun u w hW hC (hd : After _ _ u w) ρ hρ => ?_)) ?_
                  · have r147 : ρ (.tmp 147) = .pointer (some ⟨b3, 0, none⟩) := (by rw [hρ]; exact hd.get 0 _ rfl rfl); clear hρ hd
                    (go_simp; (try (first | exact wrap_in _ (by omega) (by omega) | omega)))
                  refine FSteps.cons (FStep.value (.int .i64 ((N : Int))) (fun u w hd => wanted_on 14 139 true rfl rfl (congrArg some (hd.get 1 _ rfl rfl))) (fun _ _ => rfl) (fun _ => rfl) (fun u w hW hC (hd : After _ _ u w) ρ hρ => ?_)) ?_
                  · have r148 : ρ (.tmp 148) = .slice (some ⟨gA, gO, none⟩) N c1 := (by rw [hρ]; exact hd.get 0 _ rfl rfl); clear hρ hd
                    (go_simp; (try (first | exact wrap_in _ (by omega) (by omega) | omega)))
                  refine FSteps.cons (FStep.value (.int .i64 ((N : Int) + 2)) (fun u w hd => wanted_on 14 139 true rfl rfl (congrArg some (hd.get 1 _ rfl rfl))) (fun _ _ => rfl) (fun _ => rfl) (fun u w hW hC (hd : After _ _ u w) ρ hρ => ?_)) ?_
                  · have r149 : ρ (.tmp 149) = .int .i64 ((N : Int)) := (by rw [hρ]; exact hd.get 0 _ rfl rfl); have rc : ∀ v, ρ (.const v) = v := (by subst hρ; exact fun _ => rfl); clear hρ hd
                    (go_simp; (try (first | exact wrap_in _ (by omega) (by omega) | omega)))
                  refine FSteps.cons (FStep.value (.bool true) (fun u w hd => wanted_on 14 139 true rfl rfl (congrArg some (hd.get 2 _ rfl rfl))) (fun _ _ => rfl) (fun _ => rfl) (fun u w hW hC (hd : After _ _ u w) ρ hρ => ?_)) ?_
                  · have r146 : ρ (.tmp 146) = .int .i64 ((N : Int) + 2) := (by rw [hρ]; exact hd.get 0 _ rfl rfl); have r150 : ρ (.tmp 150) = .int .i64 ((N : Int) + 2) := (by rw [hρ]; exact hd.get 1 _ rfl rfl); clear hρ hd
                    (go_simp; (try (first | exact wrap_in _ (by omega) (by omega) | omega)))
                  refine FSteps.cons (FStep.value (.bool true) (fun u w hd => wanted_on 2 127 false rfl rfl (congrArg some (hd.get 2 _ rfl rfl))) (fun _ _ => rfl) (fun _ => rfl) (fun u w hW hC (hd : After _ _ u w) ρ hρ => ?_)) ?_
                  · have r139 : ρ (.tmp 139) = .bool true := (by rw [hρ]; exact hd.get 0 _ rfl rfl); have r151 : ρ (.tmp 151) = .bool true := (by rw [hρ]; exact hd.get 1 _ rfl rfl); have rc : ∀ v, ρ (.const v) = v := (by subst hρ; exact fun _ => rfl); clear hρ hd
                    (go_simp; (try (first | exact wrap_in _ (by omega) (by omega) | omega)))
                  refine FSteps.cons (FStep.value (.bool true) (fun u w hd => wanted_on 2 127 false rfl rfl (congrArg some (hd.get 2 _ rfl rfl))) (fun _ _ => rfl) (fun _ => rfl) (fun u w hW hC (hd : After _ _ u w) ρ hρ => ?_)) ?_
                  · have r152 : ρ (.tmp 152) = .bool true := (by rw [hρ]; exact hd.get 0 _ rfl rfl); clear hρ hd
                    (go_simp; (try (first | exact wrap_in _ (by omega) (by omega) | omega)))
                  refine FSteps.cons (FStep.value (.agg #[.slice A1 NA cA]) (fun u w hd => wanted_on 28 153 true rfl rfl (congrArg some (hd.get 0 _ rfl rfl))) (fun _ _ => rfl) (fun _ => rfl) (fun u w hW hC (hd : After _ _ u w) ρ hρ => ?_)) ?_
                  · have r7 : ρ (.tmp 7) = .pointer (some ⟨b7, 0, none⟩) := (by subst hρ; rfl); clear hρ hd
                    (go_simp; (try (first | exact wrap_in _ (by omega) (by omega) | omega)))
                  refine FSteps.cons (FStep.callC (.bool true) _ #[.agg #[.slice A1 NA cA]] (fun u w hd => wanted_on 28 153 true rfl rfl (congrArg some (hd.get 1 _ rfl rfl))) (fun _ _ => rfl) (fun _ => rfl) (fun u w hW hC (hd : After _ _ u w) ρ hρ => ?_) (fun w hW => RoomOk_at2 A1 CA cA NA _ w HNA.out (HRA1.out w (by (repeat (first | exact Ext.refl _ | assumption | apply Ext.alloc | apply Ext.drew | apply Ext.drewN | (refine Ext.trans ?_ (by assumption)))))) hnA HOA.out)) ?_
                  · have r154 : ρ (.tmp 154) = .agg #[.slice A1 NA cA] := (by rw [hρ]; exact hd.get 0 _ rfl rfl); have rf : ∀ f, ρ (.func f) = .func (.func f) #[] #[] := (by subst hρ; exact fun _ => rfl); clear hρ hd
                    (go_simp; (try (first | exact wrap_in _ (by omega) (by omega) | omega)))
                  refine FSteps.cons (FStep.value (.bool true) (fun u w hd => wanted_on 2 127 false rfl rfl (congrArg some (hd.get 2 _ rfl rfl))) (fun _ _ => rfl) (fun _ => rfl) (fun u w hW hC (hd : After _ _ u w) ρ hρ => ?_)) ?_
                  · have r153 : ρ (.tmp 153) = .bool true := (by rw [hρ]; exact hd.get 0 _ rfl rfl); have r155 : ρ (.tmp 155) = .bool true := (by rw [hρ]; exact hd.get 1 _ rfl rfl); have rc : ∀ v, ρ (.const v) = v := (by subst hρ; exact fun _ => rfl); clear hρ hd
                    (go_simp; (try (first | exact wrap_in _ (by omega) (by omega) | omega)))
                  refine FSteps.cons (FStep.value (.bool true) (fun u w hd => wanted_on 2 127 false rfl rfl (congrArg some (hd.get 2 _ rfl rfl))) (fun _ _ => rfl) (fun _ => rfl) (fun u w hW hC (hd : After _ _ u w) ρ hρ => ?_)) ?_
                  · have r156 : ρ (.tmp 156) = .bool true := (by rw [hρ]; exact hd.get 0 _ rfl rfl); clear hρ hd
                    (go_simp; (try (first | exact wrap_in _ (by omega) (by omega) | omega)))
                  refine FSteps.cons (FStep.value (.agg #[.slice A2 NB cB]) (fun u w hd => wanted_on 32 157 true rfl rfl (congrArg some (hd.get 0 _ rfl rfl))) (fun _ _ => rfl) (fun _ => rfl) (fun u w hW hC (hd : After _ _ u w) ρ hρ => ?_)) ?_
                  · have r8 : ρ (.tmp 8) = .pointer (some ⟨b8, 0, none⟩) := (by subst hρ; rfl); clear hρ hd
                    (go_simp; (try (first | exact wrap_in _ (by omega) (by omega) | omega)))
                  refine FSteps.cons (FStep.callC (.bool true) _ #[.agg #[.slice A2 NB cB]] (fun u w hd => wanted_on 32 157 true rfl rfl (congrArg some (hd.get 1 _ rfl rfl))) (fun _ _ => rfl) (fun _ => rfl) (fun u w hW hC (hd : After _ _ u w) ρ hρ => ?_) (fun w hW => RoomOk_at2 A2 CB cB NB _ w HNB.out (HRB1.out w (by (repeat (first | exact Ext.refl _ | assumption | apply Ext.alloc | apply Ext.drew | apply Ext.drewN | (refine Ext.trans ?_ (by assumption)))))) hnB HOB.out)) ?_
                  · have r158 : ρ (.tmp 158) = .agg #[.slice A2 NB cB] := (by rw [hρ]; exact hd.get 0 _ rfl rfl); have rf : ∀ f, ρ (.func f) = .func (.func f) #[] #[] := (by subst hρ; exact fun _ => rfl); clear hρ hd
                    (go_simp; (try (first | exact wrap_in _ (by omega) (by omega) | omega)))
                  refine FSteps.cons (FStep.value (.bool true) (fun u w hd => wanted_on 2 127 false rfl rfl (congrArg some (hd.get 2 _ rfl rfl))) (fun _ _ => rfl) (fun _ => rfl) (fun u w hW hC (hd : After _ _ u w) ρ hρ => ?_)) ?_
                  · have r157 : ρ (.tmp 157) = .bool true := (by rw [hρ]; exact hd.get 0 _ rfl rfl); have r159 : ρ (.tmp 159) = .bool true := (by rw [hρ]; exact hd.get 1 _ rfl rfl); have rc : ∀ v, ρ (.const v) = v := (by subst hρ; exact fun _ => rfl); clear hρ hd
                    (go_simp; (try (first | exact wrap_in _ (by omega) (by omega) | omega)))
                  refine FSteps.cons (FStep.value (.bool true) (fun _ _ _ => wanted_none rfl) (fun _ _ => rfl) (fun _ => rfl) (fun u w hW hC (hd : After _ _ u w) ρ hρ => ?_)) ?_
                  · have r127 : ρ (.tmp 127) = .bool false := (by rw [hρ]; exact hd.get 0 _ rfl rfl); have r160 : ρ (.tmp 160) = .bool true := (by rw [hρ]; exact hd.get 1 _ rfl rfl); have rc : ∀ v, ρ (.const v) = v := (by subst hρ; exact fun _ => rfl); clear hρ hd
                    (go_simp; (try (first | exact wrap_in _ (by omega) (by omega) | omega)))
                  refine FSteps.cons (FStep.value (.bool true) (fun _ _ _ => wanted_none rfl) (fun _ _ => rfl) (fun _ => rfl) (fun u w hW hC (hd : After _ _ u w) ρ hρ => ?_)) ?_
                  · have r161 : ρ (.tmp 161) = .bool true := (by rw [hρ]; exact hd.get 0 _ rfl rfl); clear hρ hd
                    (go_simp; (try (first | exact wrap_in _ (by omega) (by omega) | omega)))
                  exact FSteps.nil
                case hV10 => (simp only [List.forall_mem_cons]; simp [stable_is])
                case fin10 =>
                  intro u w2 hW2 hC2 hd
                  have e37 : u 37 = .bool true := AllV.get _ 0 37 u w2 _ hd rfl
                  clear hd
                  refine then_normal ?_
                  go_step
                  refine wp_ret ?_
                  refine bodyPost_ret (results_tmp rfl _ _ _) rfl ?_
                  exact ⟨congrArg Ending.returned e37, (HX1.out.trans (hx14.trans hW2)).below⟩
            · go_wp2
              refine wp_flow (by kernel_rfl) (by kernel_rfl) (fun u => ⟨#[_, _, _, _, _, _, _, _, _, _, _, _, _, _, _, _, _, _, _, _, _, _, _, _, _, _, _, _, _, _, _, _, _, _, _, _, _, _, _, _, _, _, _, _, _, _, _, _, _, _, _, _, _, _, _, _, _, _, _, _, _, _, _, _, _, _, _, _, _, _, _, _, _, _, u 0, u 1, u 2, u 3, u 4, u 5, u 6, u 7, u 8, u 9, u 10, u 11, u 12, u 13, u 14, u 15, u 16, u 17, u 18, u 19, u 20, u 21, u 22, u 23, u 24, u 25, u 26, u 27, u 28, u 29, u 30, u 31, u 32, u 33, u 34, u 35, u 36, u 37, u 38, u 39, u 40, u 41, u 42, u 43, u 44, u 45, u 46, u 47, u 48, u 49, u 50, _, _, _, _, _, _, _, _, _, _, _, _, _, _, _, _, _, _, _, _, _, _, _, _, _, _, _, _, _, _, _, _, _, _, _, _, _], _⟩) (fun i => List.getD [_, _, _, _, _, _, _, _, _, _, _, _, _, _, _, _, _, _, _, _, _, _, _, _, _, _, _, _, _, _, _, _, _, _, _, _, _, _, _, _, _, _, _, _, _, _, _, _, _, _, _] i undef) [is (.bool true), is (.agg #[.slice (some ⟨gA, gO, none⟩) N c1]), is (.int .i64 ((k : Int))), is (.int .i64 ((i : Int))), is (.bool true), is (.bool false), is (.bool false), is (.bool true), is (.bool true), is (.bool false), is (.bool false), is (.bool false), is (.bool true), is (.bool true), is (.agg #[.slice (some ⟨gA, gO, none⟩) N c1]), is (.pointer (some ⟨b3, 0, none⟩)), is (.slice (some ⟨gA, gO, none⟩) N c1), is (.int .i64 ((i : Int))), is (.pointer (some ⟨gA, gO + i * 2, none⟩)), is (.agg #[.int .i64 Xi, .int .i64 Yi]), is (.pointer (some ⟨b3, 0, none⟩)), is (.slice (some ⟨gA, gO, none⟩) N c1), is (.int .i64 ((k : Int))), is (.pointer (some ⟨gA, gO + k * 2, none⟩)), is (.agg #[.int .i64 Xk, .int .i64 Yk]), is (.bool true), is (.bool false), is (.bool false), is (.bool false), is (.bool false), is (.bool true), is (.bool true), is (.bool true), is (.bool false), is (.bool false), is (.bool false), is (.bool false), is (.pointer (some ⟨b3, 0, none⟩)), is (.slice (some ⟨gA, gO, none⟩) N c1), is (.int .i64 ((N : Int))), is (.bool false), is (.bool false), is (undef), is (undef), is (undef), is (undef), is (undef), is (undef), is (undef), is (.bool false), is (.bool false)] (fun w' => (w'.cell? ⟨b3, 0, none⟩ = some (.slice (some ⟨gA, gO, none⟩) N c1) ∧ b3 < w'.heap.size) ∧ (w'.cell? ⟨gA, gO + i * 2, none⟩ = some (.int .i64 Xi) ∧ w'.cell? ⟨gA, gO + i * 2 + 1, none⟩ = some (.int .i64 Yi) ∧ gA < w'.heap.size) ∧ w'.cell? ⟨gA, gO + k * 2, none⟩ = some (.int .i64 Xk) ∧ w'.cell? ⟨gA, gO + k * 2 + 1, none⟩ = some (.int .i64 Yk)) _ rfl ?hC11 ?hs11 ?hV11 ?fin11
              case hC11 => exact fun w' hx => HXC.out w' hx
              case hs11 =>
                refine FSteps.cons (FStep.value (.bool true) (fun _ _ _ => wanted_none rfl) (fun _ _ => rfl) (fun _ => rfl) (fun u w hW hC (hd : After _ _ u w) ρ hρ => ?_)) ?_
                · have r6 : ρ (.tmp 6) = .bool true := (by subst hρ; rfl); clear hρ hd
                  (go_simp; (try (first | exact wrap_in _ (by omega) (by omega) | omega)))
                refine FSteps.cons (FStep.value (.agg #[.slice (some ⟨gA, gO, none⟩) N c1]) (fun _ _ _ => wanted_none rfl) (fun _ _ => rfl) (fun _ => rfl) (fun u w hW hC (hd : After _ _ u w) ρ hρ => ?_)) ?_
                · have r3 : ρ (.tmp 3) = .pointer (some ⟨b3, 0, none⟩) := (by subst hρ; rfl); clear hρ hd
                  (go_simp; (try (first | exact wrap_in _ (by omega) (by omega) | omega)))
                refine FSteps.cons (FStep.value (.int .i64 ((k : Int))) (fun _ _ _ => wanted_none rfl) (fun _ _ => rfl) (fun _ => rfl) (fun u w hW hC (hd : After _ _ u w) ρ hρ => ?_)) ?_
                · have r5 : ρ (.tmp 5) = .int .i64 ((k : Int)) := (by subst hρ; rfl); clear hρ hd
                  (go_simp; (try (first | exact wrap_in _ (by omega) (by omega) | omega)))
                refine FSteps.cons (FStep.value (.int .i64 ((i : Int))) (fun _ _ _ => wanted_none rfl) (fun _ _ => rfl) (fun _ => rfl) (fun u w hW hC (hd : After _ _ u w) ρ hρ => ?_)) ?_
                · have r4 : ρ (.tmp 4) = .int .i64 ((i : Int)) := (by subst hρ; rfl); clear hρ hd
                  (go_simp; (try (first | exact wrap_in _ (by omega) (by omega) | omega)))
                refine FSteps.cons (FStep.callC (.bool true) _ #[.agg #[.slice (some ⟨gA, gO, none⟩) N c1], .int .i64 ((k : Int)), .int .i64 ((i : Int))] (fun _ _ _ => wanted_none rfl) (fun _ _ => rfl) (fun _ => rfl) (fun u w hW hC (hd : After _ _ u w) ρ hρ => ?_) (fun w hW => IsDiagonal_at (some ⟨gA, gO, none⟩) L c1 N k i _ w HLN.out (HR1.out w (by (repeat (first | exact Ext.refl _ | assumption | apply Ext.alloc | apply Ext.drew | apply Ext.drewN | (refine Ext.trans ?_ (by assumption)))))) hn10 HP1.out)) ?_
                · have r75 : ρ (.tmp 75) = .agg #[.slice (some ⟨gA, gO, none⟩) N c1] := (by rw [hρ]; exact hd.get 0 _ rfl rfl); have r76 : ρ (.tmp 76) = .int .i64 ((k : Int)) := (by rw [hρ]; exact hd.get 1 _ rfl rfl); have r77 : ρ (.tmp 77) = .int .i64 ((i : Int)) := (by rw [hρ]; exact hd.get 2 _ rfl rfl); have rf : ∀ f, ρ (.func f) = .func (.func f) #[] #[] := (by subst hρ; exact fun _ => rfl); clear hρ hd
                  (go_simp; (try (first | exact wrap_in _ (by omega) (by omega) | omega)))
                refine FSteps.cons (FStep.value (.bool false) (fun _ _ _ => wanted_none rfl) (fun _ _ => rfl) (fun _ => rfl) (fun u w hW hC (hd : After _ _ u w) ρ hρ => ?_)) ?_
                · have r74 : ρ (.tmp 74) = .bool true := (by rw [hρ]; exact hd.get 0 _ rfl rfl); have r78 : ρ (.tmp 78) = .bool true := (by rw [hρ]; exact hd.get 1 _ rfl rfl); clear hρ hd
                  (go_simp; (try (first | exact wrap_in _ (by omega) (by omega) | omega)))
                refine FSteps.cons (FStep.value (.bool false) (fun _ _ _ => wanted_none rfl) (fun _ _ => rfl) (fun _ => rfl) (fun u w hW hC (hd : After _ _ u w) ρ hρ => ?_)) ?_
                · have r79 : ρ (.tmp 79) = .bool false := (by rw [hρ]; exact hd.get 0 _ rfl rfl); clear hρ hd
                  (go_simp; (try (first | exact wrap_in _ (by omega) (by omega) | omega)))
                refine FSteps.cons (FStep.value (.bool true) (fun u w hd => wanted_on 6 80 false rfl rfl (congrArg some (hd.get 0 _ rfl rfl))) (fun _ _ => rfl) (fun _ => rfl) (fun u w hW hC (hd : After _ _ u w) ρ hρ => ?_)) ?_
                · have r11 : ρ (.tmp 11) = .bool true := (by subst hρ; rfl); clear hρ hd
                  (go_simp; (try (first | exact wrap_in _ (by omega) (by omega) | omega)))
                refine FSteps.cons (FStep.value (.bool true) (fun u w hd => wanted_on 6 80 false rfl rfl (congrArg some (hd.get 0 _ rfl rfl))) (fun _ _ => rfl) (fun _ => rfl) (fun u w hW hC (hd : After _ _ u w) ρ hρ => ?_)) ?_
                · have r6 : ρ (.tmp 6) = .bool true := (by subst hρ; rfl); clear hρ hd
                  (go_simp; (try (first | exact wrap_in _ (by omega) (by omega) | omega)))
                refine FSteps.cons (FStep.value (.bool false) (fun u w hd => wanted_on 6 80 false rfl rfl (congrArg some (hd.get 2 _ rfl rfl))) (fun _ _ => rfl) (fun _ => rfl) (fun u w hW hC (hd : After _ _ u w) ρ hρ => ?_)) ?_
                · have r81 : ρ (.tmp 81) = .bool true := (by rw [hρ]; exact hd.get 0 _ rfl rfl); have r82 : ρ (.tmp 82) = .bool true := (by rw [hρ]; exact hd.get 1 _ rfl rfl); clear hρ hd
                  (go_simp; (try (first | exact wrap_in _ (by omega) (by omega) | omega)))
                refine FSteps.cons (FStep.value (.bool false) (fun _ _ _ => wanted_none rfl) (fun _ _ => rfl) (fun _ => rfl) (fun u w hW hC (hd : After _ _ u w) ρ hρ => ?_)) ?_
                · have r80 : ρ (.tmp 80) = .bool false := (by rw [hρ]; exact hd.get 0 _ rfl rfl); have r83 : ρ (.tmp 83) = .bool false := (by rw [hρ]; exact hd.get 1 _ rfl rfl); have rc : ∀ v, ρ (.const v) = v := (by subst hρ; exact fun _ => rfl); clear hρ hd
                  (go_simp; (try (first | exact wrap_in _ (by omega) (by omega) | omega)))
                refine FSteps.cons (FStep.value (.bool false) (fun _ _ _ => wanted_none rfl) (fun _ _ => rfl) (fun _ => rfl) (fun u w hW hC (hd : After _ _ u w) ρ hρ => ?_)) ?_
                · have r84 : ρ (.tmp 84) = .bool false := (by rw [hρ]; exact hd.get 0 _ rfl rfl); clear hρ hd
                  (go_simp; (try (first | exact wrap_in _ (by omega) (by omega) | omega)))
                refine FSteps.cons (FStep.value (.bool true) (fun u w hd => wanted_on 11 85 false rfl rfl (congrArg some (hd.get 0 _ rfl rfl))) (fun _ _ => rfl) (fun _ => rfl) (fun u w hW hC (hd : After _ _ u w) ρ hρ => ?_)) ?_
                · have r6 : ρ (.tmp 6) = .bool true := (by subst hρ; rfl); clear hρ hd
                  (go_simp; (try (first | exact wrap_in _ (by omega) (by omega) | omega)))
                refine FSteps.cons (FStep.value (.bool true) (fun u w hd => wanted_on 11 85 false rfl rfl (congrArg some (hd.get 1 _ rfl rfl))) (fun _ _ => rfl) (fun _ => rfl) (fun u w hW hC (hd : After _ _ u w) ρ hρ => ?_)) ?_
                · have r86 : ρ (.tmp 86) = .bool true := (by rw [hρ]; exact hd.get 0 _ rfl rfl); clear hρ hd
                  (go_simp; (try (first | exact wrap_in _ (by omega) (by omega) | omega)))
                refine FSteps.cons (FStep.value (.agg #[.slice (some ⟨gA, gO, none⟩) N c1]) (fun u w hd => wanted_on 13 87 true rfl rfl (congrArg some (hd.get 0 _ rfl rfl))) (fun _ _ => rfl) (fun _ => rfl) (fun u w hW hC (hd : After _ _ u w) ρ hρ => ?_)) ?_
                · have r3 : ρ (.tmp 3) = .pointer (some ⟨b3, 0, none⟩) := (by subst hρ; rfl); clear hρ hd
                  (go_simp; (try (first | exact wrap_in _ (by omega) (by omega) | omega)))
                refine FSteps.cons (FStep.value (.pointer (some ⟨b3, 0, none⟩)) (fun u w hd => wanted_on 13 87 true rfl rfl (congrArg some (hd.get 0 _ rfl rfl))) (fun _ _ => rfl) (fun _ => rfl) (fun u w hW hC (hd : After _ _ u w) ρ hρ => ?_)) ?_
                · have r3 : ρ (.tmp 3) = .pointer (some ⟨b3, 0, none⟩) := (by subst hρ; rfl); clear hρ hd
                  (go_simp; (try (first | exact wrap_in _ (by omega) (by omega) | omega)))
                refine FSteps.cons (FStep.value (.slice (some ⟨gA, gO, none⟩) N c1) (fun u w hd => wanted_on 13 87 true rfl rfl (congrArg some (hd.get 1 _ rfl rfl))) (fun _ _ => rfl) (fun _ => rfl) (fun u w hW hC (hd : After _ _ u w) ρ hρ => ?_)) ?_
                · have r89 : ρ (.tmp 89) = .pointer (some ⟨b3, 0, none⟩) := (by rw [hρ]; exact hd.get 0 _ rfl rfl); clear hρ hd
                  (go_simp; (try (first | exact wrap_in _ (by omega) (by omega) | omega)))
                refine FSteps.cons (FStep.value (.int .i64 ((i : Int))) (fun u w hd => wanted_on 13 87 true rfl rfl (congrArg some (hd.get 0 _ rfl rfl))) (fun _ _ => rfl) (fun _ => rfl) (fun u w hW hC (hd : After _ _ u w) ρ hρ => ?_)) ?_
                · have r4 : ρ (.tmp 4) = .int .i64 ((i : Int)) := (by subst hρ; rfl); clear hρ hd
                  (go_simp; (try (first | exact wrap_in _ (by omega) (by omega) | omega)))
                refine FSteps.cons (FStep.value (.pointer (some ⟨gA, gO + i * 2, none⟩)) (fun u w hd => wanted_on 13 87 true rfl rfl (congrArg some (hd.get 2 _ rfl rfl))) (fun _ _ => rfl) (fun _ => rfl) (fun u w hW hC (hd : After _ _ u w) ρ hρ => ?_)) ?_
                · have r90 : ρ (.tmp 90) = .slice (some ⟨gA, gO, none⟩) N c1 := (by rw [hρ]; exact hd.get 0 _ rfl rfl); have r91 : ρ (.tmp 91) = .int .i64 ((i : Int)) := (by rw [hρ]; exact hd.get 1 _ rfl rfl); clear hρ hd
                  (go_simp; (try (first | exact wrap_in _ (by omega) (by omega) | omega)))
                refine FSteps.cons (FStep.value (.agg #[.int .i64 Xi, .int .i64 Yi]) (fun u w hd => wanted_on 13 87 true rfl rfl (congrArg some (hd.get 1 _ rfl rfl))) (fun _ _ => rfl) (fun _ => rfl) (fun u w hW hC (hd : After _ _ u w) ρ hρ => ?_)) ?_
                · have r92 : ρ (.tmp 92) = .pointer (some ⟨gA, gO + i * 2, none⟩) := (by rw [hρ]; exact hd.get 0 _ rfl rfl); clear hρ hd
                  (go_simp; (try (first | exact wrap_in _ (by omega) (by omega) | omega)))
                refine FSteps.cons (FStep.value (.pointer (some ⟨b3, 0, none⟩)) (fun u w hd => wanted_on 13 87 true rfl rfl (congrArg some (hd.get 0 _ rfl rfl))) (fun _ _ => rfl) (fun _ => rfl) (fun u w hW hC (hd : After _ _ u w) ρ hρ => ?_)) ?_
                · have r3 : ρ (.tmp 3) = .pointer (some ⟨b3, 0, none⟩) := (by subst hρ; rfl); clear hρ hd
                  (go_simp; (try (first | exact wrap_in _ (by omega) (by omega) | omega)))
                refine FSteps.cons (FStep.value (.slice (some ⟨gA, gO, none⟩) N c1) (fun u w hd => wanted_on 13 87 true rfl rfl (congrArg some (hd.get 1 _ rfl rfl))) (fun _ _ => rfl) (fun _ => rfl) (fun u w hW hC (hd : After _ _ u w) ρ hρ => ?_)) ?_
                · have r94 : ρ (.tmp 94) = .pointer (some ⟨b3, 0, none⟩) := (by rw [hρ]; exact hd.get 0 _ rfl rfl); clear hρ hd
                  (go_simp; (try (first | exact wrap_in _ (by omega) (by omega) | omega)))
                refine FSteps.cons (FStep.value (.int .i64 ((k : Int))) (fun u w hd => wanted_on 13 87 true rfl rfl (congrArg some (hd.get 0 _ rfl rfl))) (fun _ _ => rfl) (fun _ => rfl) (fun u w hW hC (hd : After _ _ u w) ρ hρ => ?_)) ?_
                · have r5 : ρ (.tmp 5) = .int .i64 ((k : Int)) := (by subst hρ; rfl); clear hρ hd
                  (go_simp; (try (first | exact wrap_in _ (by omega) (by omega) | omega)))
                refine FSteps.cons (FStep.value (.pointer (some ⟨gA, gO + k * 2, none⟩)) (fun u w hd => wanted_on 13 87 true rfl rfl (congrArg some (hd.get 2 _ rfl rfl))) (fun _ _ => rfl) (fun _ => rfl) (fun u w hW hC (hd : After _ _ u w) ρ hρ => ?_)) ?_
                · have r95 : ρ (.tmp 95) = .slice (some ⟨gA, gO, none⟩) N c1 := (by rw [hρ]; exact hd.get 0 _ rfl rfl); have r96 : ρ (.tmp 96) = .int .i64 ((k : Int)) := (by rw [hρ]; exact hd.get 1 _ rfl rfl); clear hρ hd
                  (go_simp; (try (first | exact wrap_in _ (by omega) (by omega) | omega)))
                refine FSteps.cons (FStep.value (.agg #[.int .i64 Xk, .int .i64 Yk]) (fun u w hd => wanted_on 13 87 true rfl rfl (congrArg some (hd.get 1 _ rfl rfl))) (fun _ _ => rfl) (fun _ => rfl) (fun u w hW hC (hd : After _ _ u w) ρ hρ => ?_)) ?_
                · have r97 : ρ (.tmp 97) = .pointer (some ⟨gA, gO + k * 2, none⟩) := (by rw [hρ]; exact hd.get 0 _ rfl rfl); clear hρ hd
                  (go_simp; (try (first | exact wrap_in _ (by omega) (by omega) | omega)))
                refine FSteps.cons (FStep.callC (.bool true) _ #[.agg #[.slice (some ⟨gA, gO, none⟩) N c1], .agg #[.int .i64 Xi, .int .i64 Yi], .agg #[.int .i64 Xk, .int .i64 Yk]] (fun u w hd => wanted_on 13 87 true rfl rfl (congrArg some (hd.get 3 _ rfl rfl))) (fun _ _ => rfl) (fun _ => rfl) (fun u w hW hC (hd : After _ _ u w) ρ hρ => ?_) (fun w hW => Sees_at (some ⟨gA, gO, none⟩) L c1 N Xi Yi Xk Yk _ w HLN.out (HR1.out w (by (repeat (first | exact Ext.refl _ | assumption | apply Ext.alloc | apply Ext.drew | apply Ext.drewN | (refine Ext.trans ?_ (by assumption)))))) hn10 HSE.out)) ?_
                · have r88 : ρ (.tmp 88) = .agg #[.slice (some ⟨gA, gO, none⟩) N c1] := (by rw [hρ]; exact hd.get 0 _ rfl rfl); have r93 : ρ (.tmp 93) = .agg #[.int .i64 Xi, .int .i64 Yi] := (by rw [hρ]; exact hd.get 1 _ rfl rfl); have r98 : ρ (.tmp 98) = .agg #[.int .i64 Xk, .int .i64 Yk] := (by rw [hρ]; exact hd.get 2 _ rfl rfl); have rf : ∀ f, ρ (.func f) = .func (.func f) #[] #[] := (by subst hρ; exact fun _ => rfl); clear hρ hd
                  (go_simp; (try (first | exact wrap_in _ (by omega) (by omega) | omega)))
                refine FSteps.cons (FStep.value (.bool false) (fun u w hd => wanted_on 13 87 true rfl rfl (congrArg some (hd.get 1 _ rfl rfl))) (fun _ _ => rfl) (fun _ => rfl) (fun u w hW hC (hd : After _ _ u w) ρ hρ => ?_)) ?_
                · have r99 : ρ (.tmp 99) = .bool true := (by rw [hρ]; exact hd.get 0 _ rfl rfl); clear hρ hd
                  (go_simp; (try (first | exact wrap_in _ (by omega) (by omega) | omega)))
                refine FSteps.cons (FStep.value (.bool false) (fun u w hd => wanted_on 11 85 false rfl rfl (congrArg some (hd.get 2 _ rfl rfl))) (fun _ _ => rfl) (fun _ => rfl) (fun u w hW hC (hd : After _ _ u w) ρ hρ => ?_)) ?_
                · have r87 : ρ (.tmp 87) = .bool true := (by rw [hρ]; exact hd.get 0 _ rfl rfl); have r100 : ρ (.tmp 100) = .bool false := (by rw [hρ]; exact hd.get 1 _ rfl rfl); have rc : ∀ v, ρ (.const v) = v := (by subst hρ; exact fun _ => rfl); clear hρ hd
                  (go_simp; (try (first | exact wrap_in _ (by omega) (by omega) | omega)))
                refine FSteps.cons (FStep.value (.bool false) (fun _ _ _ => wanted_none rfl) (fun _ _ => rfl) (fun _ => rfl) (fun u w hW hC (hd : After _ _ u w) ρ hρ => ?_)) ?_
                · have r85 : ρ (.tmp 85) = .bool false := (by rw [hρ]; exact hd.get 0 _ rfl rfl); have r101 : ρ (.tmp 101) = .bool false := (by rw [hρ]; exact hd.get 1 _ rfl rfl); have rc : ∀ v, ρ (.const v) = v := (by subst hρ; exact fun _ => rfl); clear hρ hd
                  (go_simp; (try (first | exact wrap_in _ (by omega) (by omega) | omega)))
                refine FSteps.cons (FStep.value (.bool false) (fun _ _ _ => wanted_none rfl) (fun _ _ => rfl) (fun _ => rfl) (fun u w hW hC (hd : After _ _ u w) ρ hρ => ?_)) ?_
                · have r102 : ρ (.tmp 102) = .bool false := (by rw [hρ]; exact hd.get 0 _ rfl rfl); clear hρ hd
                  (go_simp; (try (first | exact wrap_in _ (by omega) (by omega) | omega)))
                refine FSteps.cons (FStep.value (.bool true) (fun u w hd => wanted_on 29 103 false rfl rfl (congrArg some (hd.get 0 _ rfl rfl))) (fun _ _ => rfl) (fun _ => rfl) (fun u w hW hC (hd : After _ _ u w) ρ hρ => ?_)) ?_
                · have r9 : ρ (.tmp 9) = .bool true := (by subst hρ; rfl); clear hρ hd
                  (go_simp; (try (first | exact wrap_in _ (by omega) (by omega) | omega)))
                refine FSteps.cons (FStep.value (.bool true) (fun u w hd => wanted_on 29 103 false rfl rfl (congrArg some (hd.get 1 _ rfl rfl))) (fun _ _ => rfl) (fun _ => rfl) (fun u w hW hC (hd : After _ _ u w) ρ hρ => ?_)) ?_
                · have r104 : ρ (.tmp 104) = .bool true := (by rw [hρ]; exact hd.get 0 _ rfl rfl); clear hρ hd
                  (go_simp; (try (first | exact wrap_in _ (by omega) (by omega) | omega)))
                refine FSteps.cons (FStep.value (.bool true) (fun u w hd => wanted_on 31 105 true rfl rfl (congrArg some (hd.get 0 _ rfl rfl))) (fun _ _ => rfl) (fun _ => rfl) (fun u w hW hC (hd : After _ _ u w) ρ hρ => ?_)) ?_
                · have r6 : ρ (.tmp 6) = .bool true := (by subst hρ; rfl); clear hρ hd
                  (go_simp; (try (first | exact wrap_in _ (by omega) (by omega) | omega)))
                refine FSteps.cons (FStep.value (.bool false) (fun u w hd => wanted_on 31 105 true rfl rfl (congrArg some (hd.get 1 _ rfl rfl))) (fun _ _ => rfl) (fun _ => rfl) (fun u w hW hC (hd : After _ _ u w) ρ hρ => ?_)) ?_
                · have r106 : ρ (.tmp 106) = .bool true := (by rw [hρ]; exact hd.get 0 _ rfl rfl); clear hρ hd
                  (go_simp; (try (first | exact wrap_in _ (by omega) (by omega) | omega)))
                refine FSteps.cons (FStep.value (.bool false) (fun u w hd => wanted_on 29 103 false rfl rfl (congrArg some (hd.get 2 _ rfl rfl))) (fun _ _ => rfl) (fun _ => rfl) (fun u w hW hC (hd : After _ _ u w) ρ hρ => ?_)) ?_
                · have r105 : ρ (.tmp 105) = .bool true := (by rw [hρ]; exact hd.get 0 _ rfl rfl); have r107 : ρ (.tmp 107) = .bool false := (by rw [hρ]; exact hd.get 1 _ rfl rfl); have rc : ∀ v, ρ (.const v) = v := (by subst hρ; exact fun _ => rfl); clear hρ hd
                  (go_simp; (try (first | exact wrap_in _ (by omega) (by omega) | omega)))
                refine FSteps.cons (FStep.value (.bool false) (fun _ _ _ => wanted_none rfl) (fun _ _ => rfl) (fun _ => rfl) (fun u w hW hC (hd : After _ _ u w) ρ hρ => ?_)) ?_
                · have r103 : ρ (.tmp 103) = .bool false := (by rw [hρ]; exact hd.get 0 _ rfl rfl); have r108 : ρ (.tmp 108) = .bool false := (by rw [hρ]; exact hd.get 1 _ rfl rfl); have rc : ∀ v, ρ (.const v) = v := (by subst hρ; exact fun _ => rfl); clear hρ hd
                  (go_simp; (try (first | exact wrap_in _ (by omega) (by omega) | omega)))
                refine FSteps.cons (FStep.value (.bool false) (fun _ _ _ => wanted_none rfl) (fun _ _ => rfl) (fun _ => rfl) (fun u w hW hC (hd : After _ _ u w) ρ hρ => ?_)) ?_
                · have r109 : ρ (.tmp 109) = .bool false := (by rw [hρ]; exact hd.get 0 _ rfl rfl); clear hρ hd
                  (go_simp; (try (first | exact wrap_in _ (by omega) (by omega) | omega)))
                refine FSteps.cons (FStep.value (.pointer (some ⟨b3, 0, none⟩)) (fun u w hd => wanted_on 36 110 false rfl rfl (congrArg some (hd.get 0 _ rfl rfl))) (fun _ _ => rfl) (fun _ => rfl) (fun u w hW hC (hd : After _ _ u w) ρ hρ => ?_)) ?_
                · have r3 : ρ (.tmp 3) = .pointer (some ⟨b3, 0, none⟩) := (by subst hρ; rfl); clear hρ hd
                  (go_simp; (try (first | exact wrap_in _ (by omega) (by omega) | omega)))
                refine FSteps.cons (FStep.value (.slice (some ⟨gA, gO, none⟩) N c1) (fun u w hd => wanted_on 36 110 false rfl rfl (congrArg some (hd.get 1 _ rfl rfl))) (fun _ _ => rfl) (fun _ => rfl) (fun u w hW hC (hd : After _ _ u w) ρ hρ => ?_)) ?_
                · have r111 : ρ (.tmp 111) = .pointer (some ⟨b3, 0, none⟩) := (by rw [hρ]; exact hd.get 0 _ rfl rfl); clear hρ hd
                  (go_simp; (try (first | exact wrap_in _ (by omega) (by omega) | omega)))
                refine FSteps.cons (FStep.value (.int .i64 ((N : Int))) (fun u w hd => wanted_on 36 110 false rfl rfl (congrArg some (hd.get 1 _ rfl rfl))) (fun _ _ => rfl) (fun _ => rfl) (fun u w hW hC (hd : After _ _ u w) ρ hρ => ?_)) ?_
                · have r112 : ρ (.tmp 112) = .slice (some ⟨gA, gO, none⟩) N c1 := (by rw [hρ]; exact hd.get 0 _ rfl rfl); clear hρ hd
                  (go_simp; (try (first | exact wrap_in _ (by omega) (by omega) | omega)))
                refine FSteps.cons (FStep.value (.bool false) (fun u w hd => wanted_on 36 110 false rfl rfl (congrArg some (hd.get 1 _ rfl rfl))) (fun _ _ => rfl) (fun _ => rfl) (fun u w hW hC (hd : After _ _ u w) ρ hρ => ?_)) ?_
                · have r113 : ρ (.tmp 113) = .int .i64 ((N : Int)) := (by rw [hρ]; exact hd.get 0 _ rfl rfl); have rc : ∀ v, ρ (.const v) = v := (by subst hρ; exact fun _ => rfl); clear hρ hd
                  (go_simp; (try (first | exact wrap_in _ (by omega) (by omega) | omega)))
                refine FSteps.cons (FStep.value (.bool false) (fun u w hd => wanted_on 36 110 false rfl rfl (congrArg some (hd.get 1 _ rfl rfl))) (fun _ _ => rfl) (fun _ => rfl) (fun u w hW hC (hd : After _ _ u w) ρ hρ => ?_)) ?_
                · have r114 : ρ (.tmp 114) = .bool false := (by rw [hρ]; exact hd.get 0 _ rfl rfl); clear hρ hd
                  (go_simp; (try (first | exact wrap_in _ (by omega) (by omega) | omega)))
                refine FSteps.cons (FStep.off_ 41 115 true rfl rfl (fun u w hd => .inl (congrArg some (After.get (V := vOf _) hd 0 _ rfl rfl))) (fun _ => rfl) (fun _ => rfl)) ?_
                refine FSteps.cons (FStep.off_ 41 115 true rfl rfl (fun u w hd => .inl (congrArg some (After.get (V := vOf _) hd 1 _ rfl rfl))) (fun _ => rfl) (fun _ => rfl)) ?_
                refine FSteps.cons (FStep.off_ 41 115 true rfl rfl (fun u w hd => .inl (congrArg some (After.get (V := vOf _) hd 0 _ rfl rfl))) (fun _ => rfl) (fun _ => rfl)) ?_
                refine FSteps.cons (FStep.off_ 41 115 true rfl rfl (fun u w hd => .inl (congrArg some (After.get (V := vOf _) hd 1 _ rfl rfl))) (fun _ => rfl) (fun _ => rfl)) ?_
                refine FSteps.cons (FStep.off_ 41 115 true rfl rfl (fun u w hd => .inl (congrArg some (After.get (V := vOf _) hd 1 _ rfl rfl))) (fun _ => rfl) (fun _ => rfl)) ?_
                refine FSteps.cons (FStep.off_ 41 115 true rfl rfl (fun u w hd => .inl (congrArg some (After.get (V := vOf _) hd 1 _ rfl rfl))) (fun _ => rfl) (fun _ => rfl)) ?_
                refine FSteps.cons (FStep.off_ 41 115 true rfl rfl (fun u w hd => .inl (congrArg some (After.get (V := vOf _) hd 2 _ rfl rfl))) (fun _ => rfl) (fun _ => rfl)) ?_
                refine FSteps.cons (FStep.value (.bool false) (fun u w hd => wanted_on 36 110 false rfl rfl (congrArg some (hd.get 2 _ rfl rfl))) (fun _ _ => rfl) (fun _ => rfl) (fun u w hW hC (hd : After _ _ u w) ρ hρ => ?_)) ?_
                · have r115 : ρ (.tmp 115) = .bool false := (by rw [hρ]; exact hd.get 0 _ rfl rfl); have r122 : ρ (.tmp 122) = undef := (by rw [hρ]; exact hd.get 1 _ rfl rfl); have rc : ∀ v, ρ (.const v) = v := (by subst hρ; exact fun _ => rfl); clear hρ hd
                  (go_simp; (try (first | exact wrap_in _ (by omega) (by omega) | omega)))
                refine FSteps.cons (FStep.value (.bool false) (fun _ _ _ => wanted_none rfl) (fun _ _ => rfl) (fun _ => rfl) (fun u w hW hC (hd : After _ _ u w) ρ hρ => ?_)) ?_
                · have r110 : ρ (.tmp 110) = .bool false := (by rw [hρ]; exact hd.get 0 _ rfl rfl); have r123 : ρ (.tmp 123) = .bool false := (by rw [hρ]; exact hd.get 1 _ rfl rfl); have rc : ∀ v, ρ (.const v) = v := (by subst hρ; exact fun _ => rfl); clear hρ hd
                  (go_simp; (try (first | exact wrap_in _ (by omega) (by omega) | omega)))
                exact FSteps.nil
              case hV11 => (simp only [List.forall_mem_cons]; simp [stable_is])
              case fin11 =>
                intro u w2 hW2 hC2 hd
                have e50 : u 50 = .bool false := AllV.get _ 0 50 u w2 _ hd rfl
                clear hd
                obtain ⟨we, rfl⟩ : ∃ we : World, we = w2 := ⟨_, rfl⟩
                have hx14 := hW2
                simp only [e50]
                clear hC2 hW2
                go_wp2
                refine wp_flow (by kernel_rfl) (by kernel_rfl) (fun u => ⟨#[_, _, u 37, _, _, _, _, _, _, _, _, _, _, _, _, _, _, _, _, _, _, _, _, _, _, _, _, _, _, _, _, _, _, _, _, _, _, _, _, _, _, _, _, _, _, _, _, _, _, _, _, _, _, _, _, _, _, _, _, _, _, _, _, _, _, _, _, _, _, _, _, _, _, _, _, _, _, _, _, _, _, _, _, _, _, _, _, _, _, _, _, _, _, _, _, _, _, _, _, _, _, _, _, _, _, _, _, _, _, _, _, _, _, _, _, _, _, _, _, _, _, _, _, _, _, u 0, u 1, u 2, u 3, u 4, u 5, u 6, u 7, u 8, u 9, u 10, u 11, u 12, u 13, u 14, u 15, u 16, u 17, u 18, u 19, u 20, u 21, u 22, u 23, u 24, u 25, u 26, u 27, u 28, u 29, u 30, u 31, u 32, u 33, u 34, u 35, u 36], _⟩) (fun i => List.getD [_, _, _, _, _, _, _, _, _, _, _, _, _, _, _, _, _, _, _, _, _, _, _, _, _, _, _, _, _, _, _, _, _, _, _, _, _, _] i undef) [is (.bool true), is (.bool false), is (.bool false), is (.pointer (some ⟨b7, 0, none⟩)), is (.slice A1 NA cA), is (.int .i64 (DA)), is (.pointer (some ⟨b8, 0, none⟩)), is (.slice A2 NB cB), is (.int .i64 (DB)), is (.int .i64 (D)), is (.pointer (some ⟨b3, 0, none⟩)), is (.slice (some ⟨gA, gO, none⟩) N c1), is (.int .i64 (D)), is (.bool true), is (.bool true), is (.pointer (some ⟨b7, 0, none⟩)), is (.slice A1 NA cA), is (.int .i64 ((NA : Int))), is (.pointer (some ⟨b8, 0, none⟩)), is (.slice A2 NB cB), is (.int .i64 ((NB : Int))), is (.int .i64 ((N : Int) + 2)), is (.pointer (some ⟨b3, 0, none⟩)), is (.slice (some ⟨gA, gO, none⟩) N c1), is (.int .i64 ((N : Int))), is (.int .i64 ((N : Int) + 2)), is (.bool true), is (.bool true), is (.bool true), is (.agg #[.slice A1 NA cA]), is (.bool true), is (.bool true), is (.bool true), is (.agg #[.slice A2 NB cB]), is (.bool true), is (.bool true), is (.bool true), is (.bool true)] (fun w' => (w'.cell? ⟨b3, 0, none⟩ = some (.slice (some ⟨gA, gO, none⟩) N c1) ∧ b3 < w'.heap.size) ∧ (w'.cell? ⟨b7, 0, none⟩ = some (.slice A1 NA cA) ∧ b7 < w'.heap.size) ∧ w'.cell? ⟨b8, 0, none⟩ = some (.slice A2 NB cB) ∧ b8 < w'.heap.size) _ rfl ?hC12 ?hs12 ?hV12 ?fin12
                case hC12 => exact fun w' hx => HB1.out w' (hx14.trans hx)
                case hs12 =>
                  refine FSteps.cons (FStep.value (.bool true) (fun _ _ _ => wanted_none rfl) (fun _ _ => rfl) (fun _ => rfl) (fun u w hW hC (hd : After _ _ u w) ρ hρ => ?_)) ?_
                  · have r9 : ρ (.tmp 9) = .bool true := (by subst hρ; rfl); clear hρ hd
                    (go_simp; (try (first | exact wrap_in _ (by omega) (by omega) | omega)))
                  refine FSteps.cons (FStep.value (.bool false) (fun _ _ _ => wanted_none rfl) (fun _ _ => rfl) (fun _ => rfl) (fun u w hW hC (hd : After _ _ u w) ρ hρ => ?_)) ?_
                  · have r125 : ρ (.tmp 125) = .bool true := (by rw [hρ]; exact hd.get 0 _ rfl rfl); clear hρ hd
                    (go_simp; (try (first | exact wrap_in _ (by omega) (by omega) | omega)))
                  refine FSteps.cons (FStep.value (.bool false) (fun _ _ _ => wanted_none rfl) (fun _ _ => rfl) (fun _ => rfl) (fun u w hW hC (hd : After _ _ u w) ρ hρ => ?_)) ?_
                  · have r126 : ρ (.tmp 126) = .bool false := (by rw [hρ]; exact hd.get 0 _ rfl rfl); clear hρ hd
                    (go_simp; (try (first | exact wrap_in _ (by omega) (by omega) | omega)))
                  refine FSteps.cons (FStep.value (.pointer (some ⟨b7, 0, none⟩)) (fun u w hd => wanted_on 2 127 false rfl rfl (congrArg some (hd.get 0 _ rfl rfl))) (fun _ _ => rfl) (fun _ => rfl) (fun u w hW hC (hd : After _ _ u w) ρ hρ => ?_)) ?_
                  · have r7 : ρ (.tmp 7) = .pointer (some ⟨b7, 0, none⟩) := (by subst hρ; rfl); clear hρ hd
                    (go_simp; (try (first | exact wrap_in _ (by omega) (by omega) | omega)))
                  refine FSteps.cons (FStep.value (.slice A1 NA cA) (fun u w hd => wanted_on 2 127 false rfl rfl (congrArg some (hd.get 1 _ rfl rfl))) (fun _ _ => rfl) (fun _ => rfl) (fun u w hW hC (hd : After _ _ u w) ρ hρ => ?_)) ?_
                  · have r128 : ρ (.tmp 128) = .pointer (some ⟨b7, 0, none⟩) := (by rw [hρ]; exact hd.get 0 _ rfl rfl); clear hρ hd
                    (go_simp; (try (first | exact wrap_in _ (by omega) (by omega) | omega)))
                  refine FSteps.cons (FStep.callC (.int .i64 (DA)) _ #[.slice A1 NA cA] (fun u w hd => wanted_on 2 127 false rfl rfl (congrArg some (hd.get 1 _ rfl rfl))) (fun _ _ => rfl) (fun _ => rfl) (fun u w hW hC (hd : After _ _ u w) ρ hρ => ?_) (fun w hW => DoubleArea_at2 A1 CA cA NA _ w HNA.out (HRA1.out w (by (repeat (first | exact Ext.refl _ | assumption | apply Ext.alloc | apply Ext.drew | apply Ext.drewN | (refine Ext.trans ?_ (by assumption)))))) hnA HDA.out)) ?_
                  · have r129 : ρ (.tmp 129) = .slice A1 NA cA := (by rw [hρ]; exact hd.get 0 _ rfl rfl); have rf : ∀ f, ρ (.func f) = .func (.func f) #[] #[] := (by subst hρ; exact fun _ => rfl); clear hρ hd
                    (go_simp; (try (first | exact wrap_in _ (by omega) (by omega) | omega)))
                  refine FSteps.cons (FStep.value (.pointer (some ⟨b8, 0, none⟩)) (fun u w hd => wanted_on 2 127 false rfl rfl (congrArg some (hd.get 0 _ rfl rfl))) (fun _ _ => rfl) (fun _ => rfl) (fun u w hW hC (hd : After _ _ u w) ρ hρ => ?_)) ?_
                  · have r8 : ρ (.tmp 8) = .pointer (some ⟨b8, 0, none⟩) := (by subst hρ; rfl); clear hρ hd
                    (go_simp; (try (first | exact wrap_in _ (by omega) (by omega) | omega)))
                  refine FSteps.cons (FStep.value (.slice A2 NB cB) (fun u w hd => wanted_on 2 127 false rfl rfl (congrArg some (hd.get 1 _ rfl rfl))) (fun _ _ => rfl) (fun _ => rfl) (fun u w hW hC (hd : After _ _ u w) ρ hρ => ?_)) ?_
                  · have r131 : ρ (.tmp 131) = .pointer (some ⟨b8, 0, none⟩) := (by rw [hρ]; exact hd.get 0 _ rfl rfl); clear hρ hd
                    (go_simp; (try (first | exact wrap_in _ (by omega) (by omega) | omega)))
                  refine FSteps.cons (FStep.callC (.int .i64 (DB)) _ #[.slice A2 NB cB] (fun u w hd => wanted_on 2 127 false rfl rfl (congrArg some (hd.get 2 _ rfl rfl))) (fun _ _ => rfl) (fun _ => rfl) (fun u w hW hC (hd : After _ _ u w) ρ hρ => ?_) (fun w hW => DoubleArea_at2 A2 CB cB NB _ w HNB.out (HRB1.out w (by (repeat (first | exact Ext.refl _ | assumption | apply Ext.alloc | apply Ext.drew | apply Ext.drewN | (refine Ext.trans ?_ (by assumption)))))) hnB HDB.out)) ?_
                  · have r132 : ρ (.tmp 132) = .slice A2 NB cB := (by rw [hρ]; exact hd.get 0 _ rfl rfl); have rf : ∀ f, ρ (.func f) = .func (.func f) #[] #[] := (by subst hρ; exact fun _ => rfl); clear hρ hd
                    (go_simp; (try (first | exact wrap_in _ (by omega) (by omega) | omega)))
                  refine FSteps.cons (FStep.value (.int .i64 (D)) (fun u w hd => wanted_on 2 127 false rfl rfl (congrArg some (hd.get 2 _ rfl rfl))) (fun _ _ => rfl) (fun _ => rfl) (fun u w hW hC (hd : After _ _ u w) ρ hρ => ?_)) ?_
                  · have r130 : ρ (.tmp 130) = .int .i64 (DA) := (by rw [hρ]; exact hd.get 0 _ rfl rfl); have r133 : ρ (.tmp 133) = .int .i64 (DB) := (by rw [hρ]; exact hd.get 1 _ rfl rfl); clear hρ hd
                    (go_simp; (try (first | exact wrap_in _ (by omega) (by omega) | omega)))
                  refine FSteps.cons (FStep.value (.pointer (some ⟨b3, 0, none⟩)) (fun u w hd => wanted_on 2 127 false rfl rfl (congrArg some (hd.get 0 _ rfl rfl))) (fun _ _ => rfl) (fun _ => rfl) (fun u w hW hC (hd : After _ _ u w) ρ hρ => ?_)) ?_
                  · have r3 : ρ (.tmp 3) = .pointer (some ⟨b3, 0, none⟩) := (by subst hρ; rfl); clear hρ hd
                    (go_simp; (try (first | exact wrap_in _ (by omega) (by omega) | omega)))
                  refine FSteps.cons (FStep.value (.slice (some ⟨gA, gO, none⟩) N c1) (fun u w hd => wanted_on 2 127 false rfl rfl (congrArg some (hd.get 1 _ rfl rfl))) (fun _ _ => rfl) (fun _ => rfl) (fun u w hW hC (hd : After _ _ u w) ρ hρ => ?_)) ?_
                  · have r135 : ρ (.tmp 135) = .pointer (some ⟨b3, 0, none⟩) := (by rw [hρ]; exact hd.get 0 _ rfl rfl); clear hρ hd
                    (go_simp; (try (first | exact wrap_in _ (by omega) (by omega) | omega)))
                  refine FSteps.cons (FStep.callC (.int .i64 (D)) _ #[.slice (some ⟨gA, gO, none⟩) N c1] (fun u w hd => wanted_on 2 127 false rfl rfl (congrArg some (hd.get 2 _ rfl rfl))) (fun _ _ => rfl) (fun _ => rfl) (fun u w hW hC (hd : After _ _ u w) ρ hρ => ?_) (fun w hW => DoubleArea_at2 (some ⟨gA, gO, none⟩) L c1 N _ w HLN.out (HR1.out w (by (repeat (first | exact Ext.refl _ | assumption | apply Ext.alloc | apply Ext.drew | apply Ext.drewN | (refine Ext.trans ?_ (by assumption)))))) hn10 HDD.out)) ?_
                  · have r136 : ρ (.tmp 136) = .slice (some ⟨gA, gO, none⟩) N c1 := (by rw [hρ]; exact hd.get 0 _ rfl rfl); have rf : ∀ f, ρ (.func f) = .func (.func f) #[] #[] := (by subst hρ; exact fun _ => rfl); clear hρ hd
                    (go_simp; (try (first | exact wrap_in _ (by omega) (by omega) | omega)))
                  refine FSteps.cons (FStep.value (.bool true) (fun u w hd => wanted_on 2 127 false rfl rfl (congrArg some (hd.get 2 _ rfl rfl))) (fun _ _ => rfl) (fun _ => rfl) (fun u w hW hC (hd : After _ _ u w) ρ hρ => ?_)) ?_
                  · have r134 : ρ (.tmp 134) = .int .i64 (D) := (by rw [hρ]; exact hd.get 0 _ rfl rfl); have r137 : ρ (.tmp 137) = .int .i64 (D) := (by rw [hρ]; exact hd.get 1 _ rfl rfl); clear hρ hd
                    (go_simp; (try (first | exact wrap_in _ (by omega) (by omega) | omega)))
                  refine FSteps.cons (FStep.value (.bool true) (fun u w hd => wanted_on 2 127 false rfl rfl (congrArg some (hd.get 2 _ rfl rfl))) (fun _ _ => rfl) (fun _ => rfl) (fun u w hW hC (hd : After _ _ u w) ρ hρ => ?_)) ?_
                  · have r138 : ρ (.tmp 138) = .bool true := (by rw [hρ]; exact hd.get 0 _ rfl rfl); clear hρ hd
                    (go_simp; (try (first | exact wrap_in _ (by omega) (by omega) | omega)))
                  refine FSteps.cons (FStep.value (.pointer (some ⟨b7, 0, none⟩)) (fun u w hd => wanted_on 14 139 true rfl rfl (congrArg some (hd.get 0 _ rfl rfl))) (fun _ _ => rfl) (fun _ => rfl) (fun u w hW hC (hd : After _ _ u w) ρ hρ => ?_)) ?_
                  · have r7 : ρ (.tmp 7) = .pointer (some ⟨b7, 0, none⟩) := (by subst hρ; rfl); clear hρ hd
                    (go_simp; (try (first | exact wrap_in _ (by omega) (by omega) | omega)))
                  refine FSteps.cons (FStep.value (.slice A1 NA cA) (fun u w hd => wanted_on 14 139 true rfl rfl (congrArg some (hd.get 1 _ rfl rfl))) (fun _ _ => rfl) (fun _ => rfl) (fun u w hW hC (hd : After _ _ u w) ρ hρ => ?_)) ?_
                  · have r140 : ρ (.tmp 140) = .pointer (some ⟨b7, 0, none⟩) := (by rw [hρ]; exact hd.get 0 _ rfl rfl); clear hρ hd
                    (go_simp; (try (first | exact wrap_in _ (by omega) (by omega) | omega)))
                  refine FSteps.cons (FStep.value (.int .i64 ((NA : Int))) (fun u w hd => wanted_on 14 139 true rfl rfl (congrArg some (hd.get 1 _ rfl rfl))) (fun _ _ => rfl) (fun _ => rfl) (fun u w hW hC (hd : After _ _ u w) ρ hρ => ?_)) ?_
                  · have r141 : ρ (.tmp 141) = .slice A1 NA cA := (by rw [hρ]; exact hd.get 0 _ rfl rfl); clear hρ hd
                    (go_simp; (try (first | exact wrap_in _ (by omega) (by omega) | omega)))
                  refine FSteps.cons (FStep.value (.pointer (some ⟨b8, 0, none⟩)) (fun u w hd => wanted_on 14 139 true rfl rfl (congrArg some (hd.get 0 _ rfl rfl))) (fun _ _ => rfl) (fun _ => rfl) (fun u w hW hC (hd : After _ _ u w) ρ hρ => ?_)) ?_
                  · have r8 : ρ (.tmp 8) = .pointer (some ⟨b8, 0, none⟩) := (by subst hρ; rfl); clear hρ hd
                    (go_simp; (try (first | exact wrap_in _ (by omega) (by omega) | omega)))
                  refine FSteps.cons (FStep.value (.slice A2 NB cB) (fun u w hd => wanted_on 14 139 true rfl rfl (congrArg some (hd.get 1 _ rfl rfl))) (fun _ _ => rfl) (fun _ => rfl) (fun u w hW hC (hd : After _ _ u w) ρ hρ => ?_)) ?_
                  · have r143 : ρ (.tmp 143) = .pointer (some ⟨b8, 0, none⟩) := (by rw [hρ]; exact hd.get 0 _ rfl rfl); clear hρ hd
                    (go_simp; (try (first | exact wrap_in _ (by omega) (by omega) | omega)))
                  refine FSteps.cons (FStep.value (.int .i64 ((NB : Int))) (fun u w hd => wanted_on 14 139 true rfl rfl (congrArg some (hd.get 1 _ rfl rfl))) (fun _ _ => rfl) (fun _ => rfl) (fun u w hW hC (hd : After _ _ u w) ρ hρ => ?_)) ?_
                  · have r144 : ρ (.tmp 144) = .slice A2 NB cB := (by rw [hρ]; exact hd.get 0 _ rfl rfl); clear hρ hd
                    (go_simp; (try (first | exact wrap_in _ (by omega) (by omega) | omega)))
                  refine FSteps.cons (FStep.value (.int .i64 ((N : Int) + 2)) (fun u w hd => wanted_on 14 139 true rfl rfl (congrArg some (hd.get 2 _ rfl rfl))) (fun _ _ => rfl) (fun _ => rfl) (fun u w hW hC (hd : After _ _ u w) ρ hρ => ?_)) ?_
                  · have r142 : ρ (.tmp 142) = .int .i64 ((NA : Int)) := (by rw [hρ]; exact hd.get 0 _ rfl rfl); have r145 : ρ (.tmp 145) = .int .i64 ((NB : Int)) := (by rw [hρ]; exact hd.get 1 _ rfl rfl); clear hρ hd
                    (go_simp; (try (first | exact wrap_in _ (by omega) (by omega) | omega)))
                  refine FSteps.cons (FStep.value (.pointer (some ⟨b3, 0, none⟩)) (fun u w hd => wanted_on 14 139 true rfl rfl (congrArg some (hd.get 0 _ rfl rfl))) (fun _ _ => rfl) (fun _ => rfl) (fun u w hW hC (hd : After _ _ u w) ρ hρ => ?_)) ?_
                  · have r3 : ρ (.tmp 3) = .pointer (some ⟨b3, 0, none⟩) := (by subst hρ; rfl); clear hρ hd
                    (go_simp; (try (first | exact wrap_in _ (by omega) (by omega) | omega)))
                  refine FSteps.cons (FStep.value (.slice (some ⟨gA, gO, none⟩) N c1) (fun u w hd => wanted_on 14 139 true rfl rfl (congrArg some (hd.get 1 _ rfl rfl))) (fun _ _ => rfl) (fun _ => rfl) (fun u w hW hC (hd : After _ _ u w) ρ hρ => ?_)) ?_
                  · have r147 : ρ (.tmp 147) = .pointer (some ⟨b3, 0, none⟩) := (by rw [hρ]; exact hd.get 0 _ rfl rfl); clear hρ hd
                    (go_simp; (try (first | exact wrap_in _ (by omega) (by omega) | omega)))
                  refine FSteps.cons (FStep.value (.int .i64 ((N : Int))) (fun u w hd => wanted_on 14 139 true rfl rfl (congrArg some (hd.get 1 _ rfl rfl))) (fun _ _ => rfl) (fun _ => rfl) (fun u w hW hC (hd : After _ _ u w) ρ hρ => ?_)) ?_
                  · have r148 : ρ (.tmp 148) = .slice (some ⟨gA, gO, none⟩) N c1 := (by rw [hρ]; exact hd.get 0 _ rfl rfl); clear hρ hd
                    (go_simp; (try (first | exact wrap_in _ (by omega) (by omega) | omega)))
                  refine FSteps.cons (FStep.value (.int .i64 ((N : Int) + 2)) (fun u w hd => wanted_on 14 139 true rfl rfl (congrArg some (hd.get 1 _ rfl rfl))) (fun _ _ => rfl) (fun _ => rfl) (fun u w hW hC (hd : After _ _ u w) ρ hρ => ?_)) ?_
                  · have r149 : ρ (.tmp 149) = .int .i64 ((N : Int)) := (by rw [hρ]; exact hd.get 0 _ rfl rfl); have rc : ∀ v, ρ (.const v) = v := (by subst hρ; exact fun _ => rfl); clear hρ hd
                    (go_simp; (try (first | exact wrap_in _ (by omega) (by omega) | omega)))
                  refine FSteps.cons (FStep.value (.bool true) (fun u w hd => wanted_on 14 139 true rfl rfl (congrArg some (hd.get 2 _ rfl rfl))) (fun _ _ => rfl) (fun _ => rfl) (fun u w hW hC (hd : After _ _ u w) ρ hρ => ?_)) ?_
                  · have r146 : ρ (.tmp 146) = .int .i64 ((N : Int) + 2) := (by rw [hρ]; exact hd.get 0 _ rfl rfl); have r150 : ρ (.tmp 150) = .int .i64 ((N : Int) + 2) := (by rw [hρ]; exact hd.get 1 _ rfl rfl); clear hρ hd
                    (go_simp; (try (first | exact wrap_in _ (by omega) (by omega) | omega)))
                  refine FSteps.cons (FStep.value (.bool true) (fun u w hd => wanted_on 2 127 false rfl rfl (congrArg some (hd.get 2 _ rfl rfl))) (fun _ _ => rfl) (fun _ => rfl) (fun u w hW hC (hd : After _ _ u w) ρ hρ => ?_)) ?_
                  · have r139 : ρ (.tmp 139) = .bool true := (by rw [hρ]; exact hd.get 0 _ rfl rfl); have r151 : ρ (.tmp 151) = .bool true := (by rw [hρ]; exact hd.get 1 _ rfl rfl); have rc : ∀ v, ρ (.const v) = v := (by subst hρ; exact fun _ => rfl); clear hρ hd
                    (go_simp; (try (first | exact wrap_in _ (by omega) (by omega) | omega)))
                  refine FSteps.cons (FStep.value (.bool true) (fun u w hd => wanted_on 2 127 false rfl rfl (congrArg some (hd.get 2 _ rfl rfl))) (fun _ _ => rfl) (fun _ => rfl) (fun u w hW hC (hd : After _ _ u w) ρ hρ => ?_)) ?_
                  · have r152 : ρ (.tmp 152) = .bool true := (by rw [hρ]; exact hd.get 0 _ rfl rfl); clear hρ hd
                    (go_simp; (try (first | exact wrap_in _ (by omega) (by omega) | omega)))
                  refine FSteps.cons (FStep.value (.agg #[.slice A1 NA cA]) (fun u w hd => wanted_on 28 153 true rfl rfl (congrArg some (hd.get 0 _ rfl rfl))) (fun _ _ => rfl) (fun _ => rfl) (fun u w hW hC (hd : After _ _ u w) ρ hρ => ?_)) ?_
                  · have r7 : ρ (.tmp 7) = .pointer (some ⟨b7, 0, none⟩) := (by subst hρ; rfl); clear hρ hd
                    (go_simp; (try (first | exact wrap_in _ (by omega) (by omega) | omega)))
                  refine FSteps.cons (FStep.callC (.bool true) _ #[.agg #[.slice A1 NA cA]] (fun u w hd => wanted_on 28 153 true rfl rfl (congrArg some (hd.get 1 _ rfl rfl))) (fun _ _ => rfl) (fun _ => rfl) (fun u w hW hC (hd : After _ _ u w) ρ hρ => ?_) (fun w hW => RoomOk_at2 A1 CA cA NA _ w HNA.out (HRA1.out w (by (repeat (first | exact Ext.refl _ | assumption | apply Ext.alloc | apply Ext.drew | apply Ext.drewN | (refine Ext.trans ?_ (by assumption)))))) hnA HOA.out)) ?_
                  · have r154 : ρ (.tmp 154) = .agg #[.slice A1 NA cA] := (by rw [hρ]; exact hd.get 0 _ rfl rfl); have rf : ∀ f, ρ (.func f) = .func (.func f) #[] #[] := (by subst hρ; exact fun _ => rfl); clear hρ hd
                    (go_simp; (try (first | exact wrap_in _ (by omega) (by omega) | omega)))
                  refine FSteps.cons (FStep.value (.bool true) (fun u w hd => wanted_on 2 127 false rfl rfl (congrArg some (hd.get 2 _ rfl rfl))) (fun _ _ => rfl) (fun _ => rfl) (fun u w hW hC (hd : After _ _ u w) ρ hρ => ?_)) ?_
                  · have r153 : ρ (.tmp 153) = .bool true := (by rw [hρ]; exact hd.get 0 _ rfl rfl); have r155 : ρ (.tmp 155) = .bool true := (by rw [hρ]; exact hd.get 1 _ rfl rfl); have rc : ∀ v, ρ (.const v) = v := (by subst hρ; exact fun _ => rfl); clear hρ hd
                    (go_simp; (try (first | exact wrap_in _ (by omega) (by omega) | omega)))
                  refine FSteps.cons (FStep.value (.bool true) (fun u w hd => wanted_on 2 127 false rfl rfl (congrArg some (hd.get 2 _ rfl rfl))) (fun _ _ => rfl) (fun _ => rfl) (fun u w hW hC (hd : After _ _ u w) ρ hρ => ?_)) ?_
                  · have r156 : ρ (.tmp 156) = .bool true := (by rw [hρ]; exact hd.get 0 _ rfl rfl); clear hρ hd
                    (go_simp; (try (first | exact wrap_in _ (by omega) (by omega) | omega)))
                  refine FSteps.cons (FStep.value (.agg #[.slice A2 NB cB]) (fun u w hd => wanted_on 32 157 true rfl rfl (congrArg some (hd.get 0 _ rfl rfl))) (fun _ _ => rfl) (fun _ => rfl) (fun u w hW hC (hd : After _ _ u w) ρ hρ => ?_)) ?_
                  · have r8 : ρ (.tmp 8) = .pointer (some ⟨b8, 0, none⟩) := (by subst hρ; rfl); clear hρ hd
                    (go_simp; (try (first | exact wrap_in _ (by omega) (by omega) | omega)))
                  refine FSteps.cons (FStep.callC (.bool true) _ #[.agg #[.slice A2 NB cB]] (fun u w hd => wanted_on 32 157 true rfl rfl (congrArg some (hd.get 1 _ rfl rfl))) (fun _ _ => rfl) (fun _ => rfl) (fun u w hW hC (hd : After _ _ u w) ρ hρ => ?_) (fun w hW => RoomOk_at2 A2 CB cB NB _ w HNB.out (HRB1.out w (by (repeat (first | exact Ext.refl _ | assumption | apply Ext.alloc | apply Ext.drew | apply Ext.drewN | (refine Ext.trans ?_ (by assumption)))))) hnB HOB.out)) ?_
                  · have r158 : ρ (.tmp 158) = .agg #[.slice A2 NB cB] := (by rw [hρ]; exact hd.get 0 _ rfl rfl); have rf : ∀ f, ρ (.func f) = .func (.func f) #[] #[] := (by subst hρ; exact fun _ => rfl); clear hρ hd
                    (go_simp; (try (first | exact wrap_in _ (by omega) (by omega) | omega)))
                  refine FSteps.cons (FStep.value (.bool true) (fun u w hd => wanted_on 2 127 false rfl rfl (congrArg some (hd.get 2 _ rfl rfl))) (fun _ _ => rfl) (fun _ => rfl) (fun u w hW hC (hd : After _ _ u w) ρ hρ => ?_)) ?_
                  · have r157 : ρ (.tmp 157) = .bool true := (by rw [hρ]; exact hd.get 0 _ rfl rfl); have r159 : ρ (.tmp 159) = .bool true := (by rw [hρ]; exact hd.get 1 _ rfl rfl); have rc : ∀ v, ρ (.const v) = v := (by subst hρ; exact fun _ => rfl); clear hρ hd
                    (go_simp; (try (first | exact wrap_in _ (by omega) (by omega) | omega)))
                  refine FSteps.cons (FStep.value (.bool true) (fun _ _ _ => wanted_none rfl) (fun _ _ => rfl) (fun _ => rfl) (fun u w hW hC (hd : After _ _ u w) ρ hρ => ?_)) ?_
                  · have r127 : ρ (.tmp 127) = .bool false := (by rw [hρ]; exact hd.get 0 _ rfl rfl); have r160 : ρ (.tmp 160) = .bool true := (by rw [hρ]; exact hd.get 1 _ rfl rfl); have rc : ∀ v, ρ (.const v) = v := (by subst hρ; exact fun _ => rfl); clear hρ hd
                    (go_simp; (try (first | exact wrap_in _ (by omega) (by omega) | omega)))
                  refine FSteps.cons (FStep.value (.bool true) (fun _ _ _ => wanted_none rfl) (fun _ _ => rfl) (fun _ => rfl) (fun u w hW hC (hd : After _ _ u w) ρ hρ => ?_)) ?_
                  · have r161 : ρ (.tmp 161) = .bool true := (by rw [hρ]; exact hd.get 0 _ rfl rfl); clear hρ hd
                    (go_simp; (try (first | exact wrap_in _ (by omega) (by omega) | omega)))
                  exact FSteps.nil
                case hV12 => (simp only [List.forall_mem_cons]; simp [stable_is])
                case fin12 =>
                  intro u w2 hW2 hC2 hd
                  have e37 : u 37 = .bool true := AllV.get _ 0 37 u w2 _ hd rfl
                  clear hd
                  refine then_normal ?_
                  go_step
                  refine wp_ret ?_
                  refine bodyPost_ret (results_tmp rfl _ _ _) rfl ?_
                  exact ⟨congrArg Ending.returned e37, (HX1.out.trans (hx14.trans hW2)).below⟩

end Go.Proofs.Ytjccilpjaaiicaa
