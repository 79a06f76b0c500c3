/- The walk of FnSights. -/
import Derived.Test.YtjccilpjaaiicaaSegV
import Derived.Test.YtjccilpjaaiicaaDrawT
import Derived.Test.YtjccilpjaaiicaaFastF
namespace Go.Proofs.Ytjccilpjaaiicaa
open Go.RowKit

theorem Sees_at (A : Option Addr) (l : List (Int × Int)) (c N : Nat) (ax ay bx by_ : Int) (v : Bool) (w : World) (hN : l.length = N) (hp : RPts w A l) (hn : N ≤ 1048576) (hv : seesB l ax ay bx by_ = v) :
    Calls Try.prog 7 #[.agg #[.slice A N c], .agg #[.int .i64 ax, .int .i64 ay], .agg #[.int .i64 bx, .int .i64 by_]] w fun e w' => e = .returned (.bool v) ∧ Ext w w' := by
  subst hN hv
  exact Sees_any A l c ax ay bx by_ w hp hn
theorem SeenBy_at (A : Option Addr) (l : List (Int × Int)) (c N : Nat) (ax ay : Int) (w : World) (hN : l.length = N) (hp : RPts w A l) (hn : N ≤ 1048576) :
    Calls Try.prog 8 #[.agg #[.slice A N c], .agg #[.int .i64 ax, .int .i64 ay]] w (RetP 28 (sbV l ax ay) w) := by
  subst hN
  exact SeenBy_any A l c ax ay w hp hn
theorem CornersSeen_at (A : Option Addr) (l : List (Int × Int)) (c N : Nat) (ax ay : Int) (w : World) (hN : l.length = N) (hp : RPts w A l) (hn : N ≤ 1048576) :
    Calls Try.prog 9 #[.agg #[.slice A N c], .agg #[.int .i64 ax, .int .i64 ay]] w (RetI 3 (csV l ax ay) w) := by
  subst hN
  exact CornersSeen_any A l c ax ay w hp hn
theorem BlockingWall_at (A : Option Addr) (l : List (Int × Int)) (c N : Nat) (ax ay bx by_ v : Int) (w : World) (hN : l.length = N) (hp : RPts w A l) (hn : N ≤ 1048576) (hv : blockV l ax ay bx by_ = v) :
    Calls Try.prog 11 #[.agg #[.slice A N c], .agg #[.int .i64 ax, .int .i64 ay], .agg #[.int .i64 bx, .int .i64 by_]] w fun e w' => e = .returned (.int .i64 v) ∧ Ext w w' := by
  subst hN hv
  exact BlockingWall_any A l c ax ay bx by_ w hp hn
theorem IsConvex_at (A : Option Addr) (l : List (Int × Int)) (c N : Nat) (v : Bool) (w : World) (hN : l.length = N) (hp : RPts w A l) (hn : N ≤ 1048576) (hv : convV l = v) :
    Calls Try.prog 10 #[.agg #[.slice A N c]] w fun e w' => e = .returned (.bool v) ∧ Ext w w' := by
  subst hN hv
  exact IsConvex_any A l c w hp hn

/-! ## The round -/


set_option maxRecDepth 100000 in
set_option maxHeartbeats 6400000 in
theorem sights_walk (B : Option Addr) (n c : Nat) (w : World) (hb : RB w B n) :
    Calls Try.prog 3 #[.slice B n c] w fun e w' => e = .returned (.bool true) ∧ Below w.heap.size w w' := by
  by_cases hbig : (1048576 : Int) < (n : Int)
  · go_enter Try.func3, Try.ntmps3
    go_wp2_with (go_at_call 5; refine (big_any _ _ _ _).mono ?_; rintro e w1 ⟨rfl, rfl⟩)
    go_ret
    exact ⟨rfl, Below.refl _ _⟩
  · have hn : n ≤ 1048576 := by omega
    go_enter Try.func3, Try.ntmps3
    go_wp2_with (go_at_call 5; refine (big_any _ _ _ _).mono ?_; rintro e w1 ⟨rfl, rfl⟩)
    refine (DrawSight_any B n c w hb hn (fun L hD => by have := Jor.floor_three_pos hD; omega)).mono ?_
    rintro e w1 ⟨L, A, c1, px, py, qx, qy, rfl, hcap, hD, ⟨hf1, hf2⟩, own, x1⟩
    obtain ⟨hr, p1, p2, p3, p4, p5, p6, p7⟩ := Jor.sights_plain hD hf1 hf2
    have hN3 : 3 ≤ L.length := (roomB_fine hr).2
    have hN10 : L.length ≤ 10 := (roomB_fine hr).1.2
    have hsl := sbV_le L px py
    have r1 : RPts w1 A L := own.r (Nat.le_refl _)
    obtain ⟨N, hN⟩ : ∃ N, L.length = N := ⟨_, rfl⟩
    obtain ⟨F, hF⟩ : ∃ F, sbV L px py = F := ⟨_, rfl⟩
    obtain ⟨V, hV⟩ : ∃ V, csV L px py = V := ⟨_, rfl⟩
    rw [hF] at p5 hsl
    rw [hV] at p6 p7
    obtain ⟨Q, hQ⟩ : ∃ Q, F.length = Q := ⟨_, rfl⟩
    obtain ⟨M, hM⟩ : ∃ M, V.length = M := ⟨_, rfl⟩
    obtain ⟨s, hs⟩ : ∃ s, seesB L px py qx qy = s := ⟨_, rfl⟩
    obtain ⟨cv, hcv⟩ : ∃ cv, convV L = cv := ⟨_, rfl⟩
    obtain ⟨bk, hbk⟩ : ∃ bk, blockV L px py qx qy = bk := ⟨_, rfl⟩
    rw [hN] at hcap hN3 hN10 p7 ⊢
    rw [hQ] at p5 hsl
    rw [hM] at p6 p7
    rw [hs] at p1 p3 p4 p5
    rw [hcv] at p3
    rw [hbk] at p4
    have HLN := hide hN
    have HF := hide hF
    have HV := hide hV
    have HQ := hide hQ
    have HM := hide hM
    have HS := hide hs
    have HS1 := hide p1
    have HS2 := hide p2
    have HP3 := hide p3
    have HP4 := hide p4
    have HP5 := hide p5
    have HCV := hide hcv
    have HBK := hide hbk
    have hn10 : N ≤ 1048576 := by omega
    clear hN hF hV hQ hM hs hcv hbk hD hr own p1 p2 p3 p4 p5 hf1 hf2
    have HB : Hid (∀ w', Ext (((w1.alloc (.cells #[.slice A N c1] 26)).alloc (.cells #[.int .i64 px, .int .i64 py] 28)).alloc (.cells #[.int .i64 qx, .int .i64 qy] 28)) w' → w'.cell? ⟨w1.heap.size, 0, none⟩ = some (.slice A N c1) ∧ w1.heap.size < w'.heap.size ∧ w'.cell? ⟨w1.heap.size + 1, 0, none⟩ = some (.int .i64 px) ∧ w'.cell? ⟨w1.heap.size + 1, 1, none⟩ = some (.int .i64 py) ∧ w1.heap.size + 1 < w'.heap.size ∧ w'.cell? ⟨w1.heap.size + 1 + 1, 0, none⟩ = some (.int .i64 qx) ∧ w'.cell? ⟨w1.heap.size + 1 + 1, 1, none⟩ = some (.int .i64 qy) ∧ w1.heap.size + 1 + 1 < w'.heap.size) := fun w' hx => by
      and_intros <;> (first | (have hz := hx.size; simp at hz; omega) | ((first | rw [hx.cells _ _ (by first | (simp; done) | (simp; omega))] | rw [hx.frozens _ _ (by first | (simp; done) | (simp; omega))]); (first | (simp [go_sem]; done) | (simp [go_sem, World.cell?_alloc_past]; done) | (simp [go_sem, World.frozen?]; done))))
    go_wp2_with fail
    refine (Sees_at A L c1 N px py qx qy _ _ HLN.out (r1.ext (by (repeat (first | exact Ext.refl _ | assumption | apply Ext.alloc | apply Ext.drew | apply Ext.drewN | (refine Ext.trans ?_ (by assumption)))))) hn10 HS.out).mono ?_
    rintro e wa ⟨rfl, xa⟩
    have fa := HB.out wa (by (repeat (first | exact Ext.refl _ | assumption | apply Ext.alloc | apply Ext.drew | apply Ext.drewN | (refine Ext.trans ?_ (by assumption)))))
    go_wp2_with fail
    refine (SeenBy_at A L c1 N px py _ HLN.out (r1.ext (by (repeat (first | exact Ext.refl _ | assumption | apply Ext.alloc | apply Ext.drew | apply Ext.drewN | (refine Ext.trans ?_ (by assumption)))))) hn10).mono ?_
    rw [HF.out]
    rintro e wc ⟨A2, c2, rfl, ox, xc⟩
    have fc := HB.out wc (by (repeat (first | exact Ext.refl _ | assumption | apply Ext.alloc | apply Ext.drew | apply Ext.drewN | (refine Ext.trans ?_ (by assumption)))))
    rw [HQ.out]
    have rF : RPts wc A2 F := ox.r (Nat.le_refl _)
    clear ox
    obtain ⟨b3, hb3⟩ : ∃ b3, b3 = w1.heap.size := ⟨_, rfl⟩
    obtain ⟨b4, hb4⟩ : ∃ b4, b4 = w1.heap.size + 1 := ⟨_, rfl⟩
    obtain ⟨b5, hb5⟩ : ∃ b5, b5 = w1.heap.size + 1 + 1 := ⟨_, rfl⟩
    have HBQ := hide (show ∀ w', Ext wc w' → (w'.cell? ⟨b3, 0, none⟩ = some (.slice A N c1) ∧ b3 < w'.heap.size) ∧ (w'.cell? ⟨b4, 0, none⟩ = some (.int .i64 px) ∧ w'.cell? ⟨b4, 1, none⟩ = some (.int .i64 py) ∧ b4 < w'.heap.size) ∧ w'.cell? ⟨b5, 0, none⟩ = some (.int .i64 qx) ∧ w'.cell? ⟨b5, 1, none⟩ = some (.int .i64 qy) ∧ b5 < w'.heap.size from fun w' hx => by
      have h := HB.out w' (Ext.trans (by (repeat (first | exact Ext.refl _ | assumption | apply Ext.alloc | apply Ext.drew | apply Ext.drewN | (refine Ext.trans ?_ (by assumption))))) hx)
      rw [hb3, hb4, hb5]
      exact ⟨⟨h.1, h.2.1⟩, ⟨h.2.2.1, h.2.2.2.1, h.2.2.2.2.1⟩, h.2.2.2.2.2.1, h.2.2.2.2.2.2.1, h.2.2.2.2.2.2.2⟩)
    have HR := hide (show ∀ w', Ext wc w' → RPts w' A L from fun w' hx => r1.ext (Ext.trans (show Ext w1 wc by (repeat (first | exact Ext.refl _ | assumption | apply Ext.alloc | apply Ext.drew | apply Ext.drewN | (refine Ext.trans ?_ (by assumption))))) hx))
    have HX0 := hide (show Ext w wc by (repeat (first | exact Ext.refl _ | assumption | apply Ext.alloc | apply Ext.drew | apply Ext.drewN | (refine Ext.trans ?_ (by assumption)))))
    have HRF := hide rF
    rw [← hb5, ← hb4, ← hb3]
    clear HB fa fc xa xc r1 hb3 hb4 hb5 x1 rF hb
    have HB := HBQ
    clear HBQ
    go_wp2
    go_loopw [8, 9] (fun fv kv wr => ∃ (k : Nat) (f : Bool), k ≤ Q ∧ kv = .int .i64 (k : Int) ∧ fv = .bool f ∧ fto F qx qy k = f ∧ Ext wc wr) (fun _ kv _ => Q - (intOf kv).toNat)
    case atStart => exact ⟨0, false, Nat.zero_le _, rfl, rfl, rfl, Ext.refl _⟩
    case round =>
      obtain ⟨k, f, hk, rfl, rfl, hf, hbl⟩ := hrel
      obtain ⟨wq, rfl⟩ : ∃ wq : World, wq = wr := ⟨_, rfl⟩
      have fq := HB.out wq hbl
      by_cases hkl : k < Q
      · have q1 : (k : Int) < (Q : Int) := by omega
        have HFK := hide hf
        have hpF : RPts wq A2 F := HRF.out.ext hbl
        obtain ⟨gA, gO, hgA⟩ := hpF.some_ (by rw [HQ.out]; omega)
        subst hgA
        have hcl := fun w' (hx : Ext wq w') => (hpF.ext hx).cell (show k < F.length by rw [HQ.out]; exact hkl)
        obtain ⟨X, hX⟩ : ∃ X, gx F k = X := ⟨_, rfl⟩
        obtain ⟨Y, hY⟩ : ∃ Y, gy F k = Y := ⟨_, rfl⟩
        have HXY := hide (And.intro hX hY)
        have HCX := hide (show ∀ w', Ext wq w' → (w'.cell? ⟨gA, gO + k * 2, none⟩ = some (.int .i64 X) ∧ w'.cell? ⟨gA, gO + k * 2 + 1, none⟩ = some (.int .i64 Y) ∧ gA < w'.heap.size) ∧ w'.cell? ⟨b5, 0, none⟩ = some (.int .i64 qx) ∧ w'.cell? ⟨b5, 1, none⟩ = some (.int .i64 qy) ∧ b5 < w'.heap.size from fun w' hx => by
          have h := hcl w' hx
          rw [hX, hY] at h
          exact ⟨⟨h.2.1, h.2.2, h.1⟩, (HB.out w' (hbl.trans hx)).2.2⟩)
        clear hX hY hcl hpF HB fq HR HP3 HP4 HP5 HX0 HRF HF HV hf HS HS1 HS2 HCV HBK HM
        cases f
        · cases hzx : (X == qx)
          · have HZ := hide hzx
            go_wp2
            refine wp_flow_tail 9 (by kernel_rfl) (by kernel_rfl) (by kernel_rfl) (by kernel_rfl) (fun u => ⟨#[_, _, _, _, _, _, _, _, _, _, _, _, _, _, _, _, _, _, _, _, _, _, _, _, _, _, _, _, _, _, _, _, u 0, u 1, u 2, u 3, u 4, u 5, u 6, u 7, u 8, _, _, _, _, _, _, _, _, _, _, _, _, _, _, _, _, _, _, _, _, _, _, _, _, _, _, _, _, _, _, _, _, _, _, _, _, _, _, _, _, _, _, _, _, _, _, _, _, _, _, _, _], _⟩) (fun i => List.getD [_, _, _, _, _, _, _, _, _] i undef) [is ?v1_0, is ?v1_1, is ?v1_2, is ?v1_3, is ?v1_4, is ?v1_5, is ?v1_6, is ?v1_7, is ?v1_8] (fun w' => (w'.cell? ⟨gA, gO + k * 2, none⟩ = some (.int .i64 X) ∧ w'.cell? ⟨gA, gO + k * 2 + 1, none⟩ = some (.int .i64 Y) ∧ gA < w'.heap.size) ∧ w'.cell? ⟨b5, 0, none⟩ = some (.int .i64 qx) ∧ w'.cell? ⟨b5, 1, none⟩ = some (.int .i64 qy) ∧ b5 < w'.heap.size) _ rfl ?hC1 ?hs1 ?hV1 ?fin1
            case hC1 => exact fun w' hx => HCX.out w' hx
            case hs1 =>
              repeat' (first
                | exact FSteps.nil
                | refine FSteps.cons ?_ ?_
                | (refine FStep.off_ _ _ _ rfl rfl ?_ (fun _ => rfl) ?_; (focus (intro u w hd; simp [vOf, is, Region.binds] at hd; simp [hd])); (intro w'; exact rfl); done)
                | ((first
                    | refine FStep.plain rfl ?_
                    | (refine FStep.on_ _ _ _ rfl rfl ?_ ?_; (focus (intro u w hd; simp [vOf, is, Region.binds] at hd; simp [hd]))))
                   intro u w hW hC hd K hK
                   (try simp [vOf, is, Region.binds] at hd)
                   simp only [upd, Nat.reduceEqDiff, if_true, if_false] at hK
                   (try simp only [hd] at hK)
                   go_simp
                   (first
                     | (refine hK _ _ ?_ ?_; (first | exact rfl); (repeat (first | exact Ext.refl _ | assumption | apply Ext.alloc | apply Ext.drew | apply Ext.drewN | (refine Ext.trans ?_ (by assumption))))))))
            case hV1 => (simp only [List.forall_mem_cons]; simp [stable_is])
            case fin1 =>
              intro u w2 hW2 hC2 hd
              simp only [AllV, is] at hd
              simp only [List.drop_succ_cons, List.drop_zero]
              simp only [hd]
              clear hd
              clear hC2
              go_wp2
              go_roundw
              case rel => exact ⟨k + 1, false, by omega, by go_num, rfl, by rw [fto_succ, HFK.out, HXY.out.1, HXY.out.2, HZ.out]; rfl, hbl.trans hW2⟩
              case measure => simp [intOf]; omega
          · cases hzy : (Y == qy)
            · have HZ := hide (And.intro hzx hzy)
              go_wp2
              refine wp_flow_tail 9 (by kernel_rfl) (by kernel_rfl) (by kernel_rfl) (by kernel_rfl) (fun u => ⟨#[_, _, _, _, _, _, _, _, _, _, _, _, _, _, _, _, _, _, _, _, _, _, _, _, _, _, _, _, _, _, _, _, u 0, u 1, u 2, u 3, u 4, u 5, u 6, u 7, u 8, _, _, _, _, _, _, _, _, _, _, _, _, _, _, _, _, _, _, _, _, _, _, _, _, _, _, _, _, _, _, _, _, _, _, _, _, _, _, _, _, _, _, _, _, _, _, _, _, _, _, _, _], _⟩) (fun i => List.getD [_, _, _, _, _, _, _, _, _] i undef) [is ?v2_0, is ?v2_1, is ?v2_2, is ?v2_3, is ?v2_4, is ?v2_5, is ?v2_6, is ?v2_7, is ?v2_8] (fun w' => (w'.cell? ⟨gA, gO + k * 2, none⟩ = some (.int .i64 X) ∧ w'.cell? ⟨gA, gO + k * 2 + 1, none⟩ = some (.int .i64 Y) ∧ gA < w'.heap.size) ∧ w'.cell? ⟨b5, 0, none⟩ = some (.int .i64 qx) ∧ w'.cell? ⟨b5, 1, none⟩ = some (.int .i64 qy) ∧ b5 < w'.heap.size) _ rfl ?hC2 ?hs2 ?hV2 ?fin2
              case hC2 => exact fun w' hx => HCX.out w' hx
              case hs2 =>
                repeat' (first
                  | exact FSteps.nil
                  | refine FSteps.cons ?_ ?_
                  | (refine FStep.off_ _ _ _ rfl rfl ?_ (fun _ => rfl) ?_; (focus (intro u w hd; simp [vOf, is, Region.binds] at hd; simp [hd])); (intro w'; exact rfl); done)
                  | ((first
                      | refine FStep.plain rfl ?_
                      | (refine FStep.on_ _ _ _ rfl rfl ?_ ?_; (focus (intro u w hd; simp [vOf, is, Region.binds] at hd; simp [hd]))))
                     intro u w hW hC hd K hK
                     (try simp [vOf, is, Region.binds] at hd)
                     simp only [upd, Nat.reduceEqDiff, if_true, if_false] at hK
                     (try simp only [hd] at hK)
                     go_simp
                     (first
                       | (refine hK _ _ ?_ ?_; (first | exact rfl); (repeat (first | exact Ext.refl _ | assumption | apply Ext.alloc | apply Ext.drew | apply Ext.drewN | (refine Ext.trans ?_ (by assumption))))))))
              case hV2 => (simp only [List.forall_mem_cons]; simp [stable_is])
              case fin2 =>
                intro u w2 hW2 hC2 hd
                simp only [AllV, is] at hd
                simp only [List.drop_succ_cons, List.drop_zero]
                simp only [hd]
                clear hd
                clear hC2
                go_wp2
                go_roundw
                case rel => exact ⟨k + 1, false, by omega, by go_num, rfl, by rw [fto_succ, HFK.out, HXY.out.1, HXY.out.2, HZ.out.1, HZ.out.2]; rfl, hbl.trans hW2⟩
                case measure => simp [intOf]; omega
            · have HZ := hide (And.intro hzx hzy)
              go_wp2
              refine wp_flow_tail 9 (by kernel_rfl) (by kernel_rfl) (by kernel_rfl) (by kernel_rfl) (fun u => ⟨#[_, _, _, _, _, _, _, _, _, _, _, _, _, _, _, _, _, _, _, _, _, _, _, _, _, _, _, _, _, _, _, _, u 0, u 1, u 2, u 3, u 4, u 5, u 6, u 7, u 8, _, _, _, _, _, _, _, _, _, _, _, _, _, _, _, _, _, _, _, _, _, _, _, _, _, _, _, _, _, _, _, _, _, _, _, _, _, _, _, _, _, _, _, _, _, _, _, _, _, _, _, _], _⟩) (fun i => List.getD [_, _, _, _, _, _, _, _, _] i undef) [is ?v3_0, is ?v3_1, is ?v3_2, is ?v3_3, is ?v3_4, is ?v3_5, is ?v3_6, is ?v3_7, is ?v3_8] (fun w' => (w'.cell? ⟨gA, gO + k * 2, none⟩ = some (.int .i64 X) ∧ w'.cell? ⟨gA, gO + k * 2 + 1, none⟩ = some (.int .i64 Y) ∧ gA < w'.heap.size) ∧ w'.cell? ⟨b5, 0, none⟩ = some (.int .i64 qx) ∧ w'.cell? ⟨b5, 1, none⟩ = some (.int .i64 qy) ∧ b5 < w'.heap.size) _ rfl ?hC3 ?hs3 ?hV3 ?fin3
              case hC3 => exact fun w' hx => HCX.out w' hx
              case hs3 =>
                repeat' (first
                  | exact FSteps.nil
                  | refine FSteps.cons ?_ ?_
                  | (refine FStep.off_ _ _ _ rfl rfl ?_ (fun _ => rfl) ?_; (focus (intro u w hd; simp [vOf, is, Region.binds] at hd; simp [hd])); (intro w'; exact rfl); done)
                  | ((first
                      | refine FStep.plain rfl ?_
                      | (refine FStep.on_ _ _ _ rfl rfl ?_ ?_; (focus (intro u w hd; simp [vOf, is, Region.binds] at hd; simp [hd]))))
                     intro u w hW hC hd K hK
                     (try simp [vOf, is, Region.binds] at hd)
                     simp only [upd, Nat.reduceEqDiff, if_true, if_false] at hK
                     (try simp only [hd] at hK)
                     go_simp
                     (first
                       | (refine hK _ _ ?_ ?_; (first | exact rfl); (repeat (first | exact Ext.refl _ | assumption | apply Ext.alloc | apply Ext.drew | apply Ext.drewN | (refine Ext.trans ?_ (by assumption))))))))
              case hV3 => (simp only [List.forall_mem_cons]; simp [stable_is])
              case fin3 =>
                intro u w2 hW2 hC2 hd
                simp only [AllV, is] at hd
                simp only [List.drop_succ_cons, List.drop_zero]
                simp only [hd]
                clear hd
                clear hC2
                go_wp2
                go_roundw
                case rel => exact ⟨k + 1, true, by omega, by go_num, rfl, by rw [fto_succ, HFK.out, HXY.out.1, HXY.out.2, HZ.out.1, HZ.out.2]; rfl, hbl.trans hW2⟩
                case measure => simp [intOf]; omega
        · go_wp2
          refine wp_flow_tail 9 (by kernel_rfl) (by kernel_rfl) (by kernel_rfl) (by kernel_rfl) (fun u => ⟨#[_, _, _, _, _, _, _, _, _, _, _, _, _, _, _, _, _, _, _, _, _, _, _, _, _, _, _, _, _, _, _, _, u 0, u 1, u 2, u 3, u 4, u 5, u 6, u 7, u 8, _, _, _, _, _, _, _, _, _, _, _, _, _, _, _, _, _, _, _, _, _, _, _, _, _, _, _, _, _, _, _, _, _, _, _, _, _, _, _, _, _, _, _, _, _, _, _, _, _, _, _, _], _⟩) (fun i => List.getD [_, _, _, _, _, _, _, _, _] i undef) [is ?v4_0, is ?v4_1, is ?v4_2, is ?v4_3, is ?v4_4, is ?v4_5, is ?v4_6, is ?v4_7, is ?v4_8] (fun w' => (w'.cell? ⟨gA, gO + k * 2, none⟩ = some (.int .i64 X) ∧ w'.cell? ⟨gA, gO + k * 2 + 1, none⟩ = some (.int .i64 Y) ∧ gA < w'.heap.size) ∧ w'.cell? ⟨b5, 0, none⟩ = some (.int .i64 qx) ∧ w'.cell? ⟨b5, 1, none⟩ = some (.int .i64 qy) ∧ b5 < w'.heap.size) _ rfl ?hC4 ?hs4 ?hV4 ?fin4
          case hC4 => exact fun w' hx => HCX.out w' hx
          case hs4 =>
            repeat' (first
              | exact FSteps.nil
              | refine FSteps.cons ?_ ?_
              | (refine FStep.off_ _ _ _ rfl rfl ?_ (fun _ => rfl) ?_; (focus (intro u w hd; simp [vOf, is, Region.binds] at hd; simp [hd])); (intro w'; exact rfl); done)
              | ((first
                  | refine FStep.plain rfl ?_
                  | (refine FStep.on_ _ _ _ rfl rfl ?_ ?_; (focus (intro u w hd; simp [vOf, is, Region.binds] at hd; simp [hd]))))
                 intro u w hW hC hd K hK
                 (try simp [vOf, is, Region.binds] at hd)
                 simp only [upd, Nat.reduceEqDiff, if_true, if_false] at hK
                 (try simp only [hd] at hK)
                 go_simp
                 (first
                   | (refine hK _ _ ?_ ?_; (first | exact rfl); (repeat (first | exact Ext.refl _ | assumption | apply Ext.alloc | apply Ext.drew | apply Ext.drewN | (refine Ext.trans ?_ (by assumption))))))))
          case hV4 => (simp only [List.forall_mem_cons]; simp [stable_is])
          case fin4 =>
            intro u w2 hW2 hC2 hd
            simp only [AllV, is] at hd
            simp only [List.drop_succ_cons, List.drop_zero]
            simp only [hd]
            clear hd
            clear hC2
            go_wp2
            go_roundw
            case rel => exact ⟨k + 1, true, by omega, by go_num, rfl, by rw [fto_succ, HFK.out]; rfl, hbl.trans hW2⟩
            case measure => simp [intOf]; omega
      · have q1 : ¬ (k : Int) < (Q : Int) := by omega
        have e : k = Q := by omega
        rw [e] at hf ⊢
        have hfs : f = s := hf.symm.trans HP5.out
        rw [hfs]
        have hM2 : (2 : Int) ≤ (M : Int) := by omega
        have hMN : (M : Int) ≤ (N : Int) := by omega
        clear hf e hk hfs HP5 HRF HF
        go_wp2_with fail
        refine (CornersSeen_at A L c1 N px py _ HLN.out (HR.out _ (hbl.trans (by (repeat (first | exact Ext.refl _ | assumption | apply Ext.alloc | apply Ext.drew | apply Ext.drewN | (refine Ext.trans ?_ (by assumption))))))) hn10).mono ?_
        rw [HV.out]
        rintro e w2 ⟨A3, c3, rfl, ox, y2⟩
        have g2 := HB.out w2 (hbl.trans (by (repeat (first | exact Ext.refl _ | assumption | apply Ext.alloc | apply Ext.drew | apply Ext.drewN | (refine Ext.trans ?_ (by assumption))))))
        rw [HM.out]
        clear ox
        cases s
        · have hcv : cv = false := by
            cases cv
            · rfl
            · exact absurd (HP3.out rfl) (by decide)
          subst hcv
          by_cases hbk : bk < 0
          · go_wp2_with (first | (go_at_call 7; refine (Sees_at A L c1 N _ _ _ _ _ _ HLN.out (HR.out _ (hbl.trans (by (repeat (first | exact Ext.refl _ | assumption | apply Ext.alloc | apply Ext.drew | apply Ext.drewN | (refine Ext.trans ?_ (by assumption))))))) hn10 (by first | exact HS1.out | exact HS2.out)).mono ?_; rintro e w3 ⟨rfl, y3⟩; have g3 := HB.out w3 (hbl.trans (by (repeat (first | exact Ext.refl _ | assumption | apply Ext.alloc | apply Ext.drew | apply Ext.drewN | (refine Ext.trans ?_ (by assumption))))))) | (go_at_call 10; refine (IsConvex_at A L c1 N _ _ HLN.out (HR.out _ (hbl.trans (by (repeat (first | exact Ext.refl _ | assumption | apply Ext.alloc | apply Ext.drew | apply Ext.drewN | (refine Ext.trans ?_ (by assumption))))))) hn10 HCV.out).mono ?_; rintro e w4 ⟨rfl, y4⟩; have g4 := HB.out w4 (hbl.trans (by (repeat (first | exact Ext.refl _ | assumption | apply Ext.alloc | apply Ext.drew | apply Ext.drewN | (refine Ext.trans ?_ (by assumption))))))) | (go_at_call 11; refine (BlockingWall_at A L c1 N px py qx qy _ _ HLN.out (HR.out _ (hbl.trans (by (repeat (first | exact Ext.refl _ | assumption | apply Ext.alloc | apply Ext.drew | apply Ext.drewN | (refine Ext.trans ?_ (by assumption))))))) hn10 HBK.out).mono ?_; rintro e w5 ⟨rfl, y5⟩; have g5 := HB.out w5 (hbl.trans (by (repeat (first | exact Ext.refl _ | assumption | apply Ext.alloc | apply Ext.drew | apply Ext.drewN | (refine Ext.trans ?_ (by assumption))))))))
            go_ret
            exact ⟨rfl, (HX0.out.trans (hbl.trans (show Ext wq w5 by (repeat (first | exact Ext.refl _ | assumption | apply Ext.alloc | apply Ext.drew | apply Ext.drewN | (refine Ext.trans ?_ (by assumption))))))).below⟩
          · go_wp2_with (first | (go_at_call 7; refine (Sees_at A L c1 N _ _ _ _ _ _ HLN.out (HR.out _ (hbl.trans (by (repeat (first | exact Ext.refl _ | assumption | apply Ext.alloc | apply Ext.drew | apply Ext.drewN | (refine Ext.trans ?_ (by assumption))))))) hn10 (by first | exact HS1.out | exact HS2.out)).mono ?_; rintro e w3 ⟨rfl, y3⟩; have g3 := HB.out w3 (hbl.trans (by (repeat (first | exact Ext.refl _ | assumption | apply Ext.alloc | apply Ext.drew | apply Ext.drewN | (refine Ext.trans ?_ (by assumption))))))) | (go_at_call 10; refine (IsConvex_at A L c1 N _ _ HLN.out (HR.out _ (hbl.trans (by (repeat (first | exact Ext.refl _ | assumption | apply Ext.alloc | apply Ext.drew | apply Ext.drewN | (refine Ext.trans ?_ (by assumption))))))) hn10 HCV.out).mono ?_; rintro e w4 ⟨rfl, y4⟩; have g4 := HB.out w4 (hbl.trans (by (repeat (first | exact Ext.refl _ | assumption | apply Ext.alloc | apply Ext.drew | apply Ext.drewN | (refine Ext.trans ?_ (by assumption))))))) | (go_at_call 11; refine (BlockingWall_at A L c1 N px py qx qy _ _ HLN.out (HR.out _ (hbl.trans (by (repeat (first | exact Ext.refl _ | assumption | apply Ext.alloc | apply Ext.drew | apply Ext.drewN | (refine Ext.trans ?_ (by assumption))))))) hn10 HBK.out).mono ?_; rintro e w5 ⟨rfl, y5⟩; have g5 := HB.out w5 (hbl.trans (by (repeat (first | exact Ext.refl _ | assumption | apply Ext.alloc | apply Ext.drew | apply Ext.drewN | (refine Ext.trans ?_ (by assumption))))))))
            go_ret
            exact ⟨rfl, (HX0.out.trans (hbl.trans (show Ext wq w5 by (repeat (first | exact Ext.refl _ | assumption | apply Ext.alloc | apply Ext.drew | apply Ext.drewN | (refine Ext.trans ?_ (by assumption))))))).below⟩
        · have hbk : bk < 0 := by
            by_cases h : bk < 0
            · exact h
            · exact absurd (HP4.out (by first | exact h | omega)) (by decide)
          cases cv
          · go_wp2_with (first | (go_at_call 7; refine (Sees_at A L c1 N _ _ _ _ _ _ HLN.out (HR.out _ (hbl.trans (by (repeat (first | exact Ext.refl _ | assumption | apply Ext.alloc | apply Ext.drew | apply Ext.drewN | (refine Ext.trans ?_ (by assumption))))))) hn10 (by first | exact HS1.out | exact HS2.out)).mono ?_; rintro e w3 ⟨rfl, y3⟩; have g3 := HB.out w3 (hbl.trans (by (repeat (first | exact Ext.refl _ | assumption | apply Ext.alloc | apply Ext.drew | apply Ext.drewN | (refine Ext.trans ?_ (by assumption))))))) | (go_at_call 10; refine (IsConvex_at A L c1 N _ _ HLN.out (HR.out _ (hbl.trans (by (repeat (first | exact Ext.refl _ | assumption | apply Ext.alloc | apply Ext.drew | apply Ext.drewN | (refine Ext.trans ?_ (by assumption))))))) hn10 HCV.out).mono ?_; rintro e w4 ⟨rfl, y4⟩; have g4 := HB.out w4 (hbl.trans (by (repeat (first | exact Ext.refl _ | assumption | apply Ext.alloc | apply Ext.drew | apply Ext.drewN | (refine Ext.trans ?_ (by assumption))))))) | (go_at_call 11; refine (BlockingWall_at A L c1 N px py qx qy _ _ HLN.out (HR.out _ (hbl.trans (by (repeat (first | exact Ext.refl _ | assumption | apply Ext.alloc | apply Ext.drew | apply Ext.drewN | (refine Ext.trans ?_ (by assumption))))))) hn10 HBK.out).mono ?_; rintro e w5 ⟨rfl, y5⟩; have g5 := HB.out w5 (hbl.trans (by (repeat (first | exact Ext.refl _ | assumption | apply Ext.alloc | apply Ext.drew | apply Ext.drewN | (refine Ext.trans ?_ (by assumption))))))))
            go_ret
            exact ⟨rfl, (HX0.out.trans (hbl.trans (show Ext wq w5 by (repeat (first | exact Ext.refl _ | assumption | apply Ext.alloc | apply Ext.drew | apply Ext.drewN | (refine Ext.trans ?_ (by assumption))))))).below⟩
          · go_wp2_with (first | (go_at_call 7; refine (Sees_at A L c1 N _ _ _ _ _ _ HLN.out (HR.out _ (hbl.trans (by (repeat (first | exact Ext.refl _ | assumption | apply Ext.alloc | apply Ext.drew | apply Ext.drewN | (refine Ext.trans ?_ (by assumption))))))) hn10 (by first | exact HS1.out | exact HS2.out)).mono ?_; rintro e w3 ⟨rfl, y3⟩; have g3 := HB.out w3 (hbl.trans (by (repeat (first | exact Ext.refl _ | assumption | apply Ext.alloc | apply Ext.drew | apply Ext.drewN | (refine Ext.trans ?_ (by assumption))))))) | (go_at_call 10; refine (IsConvex_at A L c1 N _ _ HLN.out (HR.out _ (hbl.trans (by (repeat (first | exact Ext.refl _ | assumption | apply Ext.alloc | apply Ext.drew | apply Ext.drewN | (refine Ext.trans ?_ (by assumption))))))) hn10 HCV.out).mono ?_; rintro e w4 ⟨rfl, y4⟩; have g4 := HB.out w4 (hbl.trans (by (repeat (first | exact Ext.refl _ | assumption | apply Ext.alloc | apply Ext.drew | apply Ext.drewN | (refine Ext.trans ?_ (by assumption))))))) | (go_at_call 11; refine (BlockingWall_at A L c1 N px py qx qy _ _ HLN.out (HR.out _ (hbl.trans (by (repeat (first | exact Ext.refl _ | assumption | apply Ext.alloc | apply Ext.drew | apply Ext.drewN | (refine Ext.trans ?_ (by assumption))))))) hn10 HBK.out).mono ?_; rintro e w5 ⟨rfl, y5⟩; have g5 := HB.out w5 (hbl.trans (by (repeat (first | exact Ext.refl _ | assumption | apply Ext.alloc | apply Ext.drew | apply Ext.drewN | (refine Ext.trans ?_ (by assumption))))))))
            go_ret
            exact ⟨rfl, (HX0.out.trans (hbl.trans (show Ext wq w5 by (repeat (first | exact Ext.refl _ | assumption | apply Ext.alloc | apply Ext.drew | apply Ext.drewN | (refine Ext.trans ?_ (by assumption))))))).below⟩

end Go.Proofs.Ytjccilpjaaiicaa
