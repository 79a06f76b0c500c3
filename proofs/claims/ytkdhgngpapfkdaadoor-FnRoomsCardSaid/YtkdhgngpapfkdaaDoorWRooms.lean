/- The walk of FnRooms. -/
import Derived.Test.YtkdhgngpapfkdaaDoorRoomsL
import Derived.Test.YtkdhgngpapfkdaaDoorFastF
namespace Go.Proofs.YtkdhgngpapfkdaaDoor
open Go.RowKit

/-- a new box with an empty room -/
def BoxR (lo : Nat) (v : Value) (w : World) : Prop := ∃ b, v = .pointer (some ⟨b, 0, none⟩) ∧ lo ≤ b ∧ OneC w b 49 (.slice none 0 0)
theorem BoxR_stable (lo : Nat) : Stable (BoxR lo) := by
  rintro v w w' ⟨b, rfl, h1, h2⟩ hx
  exact ⟨b, rfl, h1, h2.ext hx⟩
theorem BoxR_new {lo : Nat} (w : World) (h : lo ≤ w.heap.size) : BoxR lo (.pointer (some ⟨w.heap.size, 0, none⟩)) (w.alloc (.cells #[.slice none 0 0] 49)) := ⟨_, rfl, h, OneC.new w _ _⟩
/-- a room of the call's own -/
def RoomR (lo N : Nat) (V : List (Int × Int)) (v : Value) (w : World) : Prop := ∃ A c, v = .agg #[.slice A N c] ∧ OwnS w lo w.heap.size 27 A V
theorem RoomR_stable (lo N : Nat) (V : List (Int × Int)) : Stable (RoomR lo N V) := by
  rintro v w w' ⟨A, c, rfl, h⟩ hx
  exact ⟨A, c, rfl, (h.ext hx).more (Nat.le_refl _) hx.size⟩
theorem ownS_boxR {w : World} {lo hi b : Nat} {A : Option Addr} {l : List (Int × Int)} {v : Value} (h : OwnS w lo hi 27 A l) (hb : OneC w b 49 v) (u : Value) : OwnS (w.setCell ⟨b, 0, none⟩ u) lo hi 27 A l := fun hl => by
  obtain ⟨g, e, h1, h2, h3⟩ := h hl
  refine ⟨g, e, h1, h2, h3.far (p := ⟨b, 0, none⟩) (fun e2 => ?_) u⟩
  obtain ⟨cs, h4, _⟩ := h3
  have e3 : g = b := e2
  subst e3
  unfold OneC at hb
  rw [h4] at hb
  injection hb with hb
  injection hb with _ hb _
  exact absurd hb (by decide)

set_option maxRecDepth 100000 in
set_option maxHeartbeats 6400000 in
theorem rooms_walk (B : Option Addr) (n c : Nat) (w : World) (hb : RB w B n) (htab : Lib.TabIs Tryd.prog w "internal/strconv.uint64pow10" .u64 Lib.pow10Tab) :
    Calls Tryd.prog 9 #[.slice B n c] w fun e w' => e = .returned (.bool true) ∧ Below w.heap.size w w' := by
  have HTB := hide htab
  clear htab
  by_cases hbig : (1048576 : Int) < (n : Int)
  · go_enter Tryd.func9, Tryd.ntmps9
    go_wp2_with (go_at_call 15; refine (big_any _ _ _ _).mono ?_; rintro e w1 ⟨rfl, rfl⟩)
    go_ret
    exact ⟨rfl, Below.refl _ _⟩
  · have hn : n ≤ 1048576 := by omega
    go_enter Tryd.func9, Tryd.ntmps9
    go_wp2_with (go_at_call 15; refine (big_any _ _ _ _).mono ?_; rintro e w1 ⟨rfl, rfl⟩)
    refine (DrawRoom_any B n c w hb hn).mono ?_
    rintro e w1 ⟨L, A, c1, rfl, hcap, hD, own, x1⟩
    have hr0 := hD.facts.1
    have hN3 : 3 ≤ L.length := (roomB_fine hr0).2
    have hN10 : L.length ≤ 10 := (roomB_fine hr0).1.2
    obtain ⟨N, hN⟩ : ∃ N, L.length = N := ⟨_, rfl⟩
    have r1 : RPts w1 A L := own.r (Nat.le_refl _)
    have HPL := hide (fun k hk => rooms_plain hD (k := k) hk)
    rw [hN] at hcap hN3 hN10 ⊢
    have HLN := hide hN
    have hn10 : N ≤ 1048576 := by omega
    clear hN hD hr0 own
    have HB : Hid (∀ w', Ext (w1.alloc (.cells #[.slice A N c1] 49)) w' → w'.cell? ⟨w1.heap.size, 0, none⟩ = some (.slice A N c1) ∧ w1.heap.size < w'.heap.size) := fun w' hx => by
      and_intros <;> (first | (have hz := hx.size; simp at hz; omega) | ((first | rw [hx.cells _ _ (by first | (simp; done) | (simp; omega))] | rw [hx.frozens _ _ (by first | (simp; done) | (simp; omega))]); (first | (simp [go_sem]; done) | (simp [go_sem, World.cell?_alloc_past]; done) | (simp [go_sem, World.frozen?]; done))))
    go_wp2_with fail
    refine (at_any B n c _ (hb.ext (by (repeat (first | exact Ext.refl _ | assumption | apply Ext.alloc | apply Ext.drew | apply Ext.drewN | (refine Ext.trans ?_ (by assumption)))))) hn).mono ?_
    rintro e w1b ⟨x, hx255, rfl, rfl⟩
    obtain ⟨k, hk⟩ : ∃ k : Nat, k = x % N := ⟨_, rfl⟩
    have hkN : k < N := by rw [hk]; exact Nat.mod_lt _ (by omega)
    have t1 : (x : Int) % (N : Int) = (k : Int) := by rw [hk]; simp
    have t2 : (x : Int).tmod (N : Int) = (k : Int) := by rw [Int.tmod_eq_emod_of_nonneg (by omega)]; exact t1
    have t0 : ((N : Int) == 0) = false := by simp only [beq_eq_false_iff_ne]; omega
    have t3 : ¬ (N : Int) = 0 := by omega
    have t4 : ¬ N = 0 := by omega
    clear t1 hk
    obtain ⟨hrL, hrX, hXX, hic, hc1, hc2, hc3, hc4, hc5, hc6⟩ := HPL.out k (by rw [HLN.out]; exact hkN)
    rw [HLN.out] at hXX hc3 hc4
    obtain ⟨X0, hX0⟩ : ∃ v, gx L k = v := ⟨_, rfl⟩
    obtain ⟨Y0, hY0⟩ : ∃ v, gy L k = v := ⟨_, rfl⟩
    obtain ⟨X1, hX1⟩ : ∃ v, gx L (nx L k) = v := ⟨_, rfl⟩
    obtain ⟨Y1, hY1⟩ : ∃ v, gy L (nx L k) = v := ⟨_, rfl⟩
    rw [hX0, hY0] at hic
    rw [hX0] at hc1 hc3
    rw [hY0] at hc2 hc4
    rw [hX1] at hc5
    rw [hY1] at hc6
    have HXY := hide (And.intro hX0 (And.intro hY0 (And.intro hX1 hY1)))
    clear hX0 hY0 hX1 hY1
    have HRO := hide hrL
    have HRX := hide hrX
    have HXX := hide hXX
    have HIC := hide hic
    have HC1 := hide (And.intro hc1 hc2)
    have HC2 := hide (And.intro hc3 hc4)
    have HC3 := hide (And.intro hc5 hc6)
    have HLX := hide (show (startL L k).length = N by rw [startL_length]; exact HLN.out)
    clear hrL hrX hXX hic hc1 hc2 hc3 hc4 hc5 hc6
    go_wp2_with fail
    refine (StartAt_at A L c1 N k _ HLN.out (r1.ext (by (repeat (first | exact Ext.refl _ | assumption | apply Ext.alloc | apply Ext.drew | apply Ext.drewN | (refine Ext.trans ?_ (by assumption)))))) hn10 hcap HRO.out hkN).mono ?_
    rintro e wk ⟨A2, c2, rfl, hcap2, own2, x2⟩
    have r2 : RPts wk A2 (startL L k) := own2.r (Nat.le_refl _)
    have f2 := HB.out wk (by (repeat (first | exact Ext.refl _ | assumption | apply Ext.alloc | apply Ext.drew | apply Ext.drewN | (refine Ext.trans ?_ (by assumption)))))
    obtain ⟨q, hq⟩ : ∃ q : Nat, q = (N - k) % N := ⟨_, rfl⟩
    have hqN : q < N := by rw [hq]; exact Nat.mod_lt _ (by omega)
    have u1 : IntKind.i64.wrap ((N : Int) - (k : Int)) = (N : Int) - (k : Int) := wrap_in _ (by omega) (by omega)
    have u2 : ((N : Int) - (k : Int)) % (N : Int) = (q : Int) := by rw [hq, show (N : Int) - (k : Int) = ((N - k : Nat) : Int) by omega]; simp
    have u3 : ((N : Int) - (k : Int)).tmod (N : Int) = (q : Int) := by rw [Int.tmod_eq_emod_of_nonneg (by omega)]; exact u2
    have HQ := hide hq
    clear hq u2 own2 t2
    have H6 : Hid (∀ w', Ext (wk.alloc (.cells #[.slice A2 N c2] 49)) w' → w'.cell? ⟨wk.heap.size, 0, none⟩ = some (.slice A2 N c2) ∧ wk.heap.size < w'.heap.size) := fun w' hx => by
      and_intros <;> (first | (have hz := hx.size; simp at hz; omega) | ((first | rw [hx.cells _ _ (by first | (simp; done) | (simp; omega))] | rw [hx.frozens _ _ (by first | (simp; done) | (simp; omega))]); (first | (simp [go_sem]; done) | (simp [go_sem, World.cell?_alloc_past]; done) | (simp [go_sem, World.frozen?]; done))))
    go_wp2
    refine wp_flow_tail 8 (by kernel_rfl) (by kernel_rfl) (by kernel_rfl) (by kernel_rfl) (fun u => ⟨#[_, _, _, _, _, _, _, u 7, _, _, _, _, _, _, _, _, _, _, _, _, _, _, _, u 0, u 1, u 2, u 3, u 4, u 5, u 6, _, _, _, _, _, _, _, _, _, _, _, _, _, _, _, _, _, _, _, _, _, _, _, _, _, _, _, _, _, _, _, _, _, _, _, _, _, _, _, _, _, _, _, _, _, _, _, _, _, _, _, _, _, _, _, _, _, _], _⟩) (fun i => List.getD [_, _, _, _, _, _, _, _] i undef) [is ?v1_0, is ?v1_1, is ?v1_2, is ?v1_3, is ?v1_4, is ?v1_5, (RoomR (wk.heap.size + 1) N (startL (startL L k) q)), (BoxR (wk.heap.size + 1))] (fun w' => wk.heap.size + 1 ≤ w'.heap.size ∧ w'.cell? ⟨wk.heap.size, 0, none⟩ = some (.slice A2 N c2) ∧ wk.heap.size < w'.heap.size) _ rfl ?hC1 ?hs1 ?hV1 ?fin1
    case hC1 => exact fun w' hx => ⟨by have := hx.size; simpa using this, H6.out w' hx⟩
    case hs1 =>
      repeat' (first
        | exact FSteps.nil
        | refine FSteps.cons ?_ ?_
        | (refine FStep.off_ _ _ _ rfl rfl ?_ (fun _ => rfl) ?_; (focus (intro u w hd; simp [vOf, is, Region.binds] at hd; simp [hd])); (intro w'; exact rfl); done)
        | ((first
            | refine FStep.plain rfl ?_
            | (refine FStep.on_ _ _ _ rfl rfl ?_ ?_; (focus (intro u w hd; simp [vOf, is, Region.binds] at hd; simp [hd]))))
           intro u w hW hC hd K hK
           (try simp [vOf, is, Region.binds] at hd)
           simp only [upd, Nat.reduceEqDiff, if_true, if_false] at hK
           (try simp only [hd] at hK)
           go_simp
           (first
             | (refine hK _ _ ?_ ?_; (first | exact rfl | exact BoxR_new _ hC.1); (repeat (first | exact Ext.refl _ | assumption | apply Ext.alloc | apply Ext.drew | apply Ext.drewN | (refine Ext.trans ?_ (by assumption)))))
             | (go_at_call 32; refine (StartAt_at A2 (startL L k) c2 N q _ HLX.out (r2.ext (by (repeat (first | exact Ext.refl _ | assumption | apply Ext.alloc | apply Ext.drew | apply Ext.drewN | (refine Ext.trans ?_ (by assumption)))))) hn10 hcap2 HRX.out hqN).mono ?_; rintro e w3 ⟨A3, c3, rfl, _, own3, hb⟩; (try go_simp); refine hK _ _ ?_ ?_; exact ⟨A3, c3, rfl, own3.more (by have := hC.1; omega) (Nat.le_refl _)⟩; (repeat (first | exact Ext.refl _ | assumption | apply Ext.alloc | apply Ext.drew | apply Ext.drewN | (refine Ext.trans ?_ (by assumption))))))))
    case hV1 => (simp only [List.forall_mem_cons]; simp [stable_is, RoomR_stable, BoxR_stable])
    intro u w2 hW2 hC2 hd
    simp only [AllV, is] at hd
    have hs6 := hd.2.2.2.2.2.2.1
    have hs7 := hd.2.2.2.2.2.2.2.1
    simp only [List.drop_succ_cons, List.drop_zero]
    simp only [hd]
    clear hd
    obtain ⟨wd, rfl⟩ : ∃ wd : World, wd = w2 := ⟨_, rfl⟩
    obtain ⟨A3, c3, hu6, own3⟩ := hs6
    obtain ⟨b7, hu7, hb7, n7⟩ := hs7
    simp only [hu6, hu7]
    have hxd : Ext (wk.alloc (.cells #[.slice A2 N c2] 49)) wd := hW2
    obtain ⟨z1, z2, z3⟩ := n7.cell
    obtain ⟨ws, hws⟩ : ∃ ws, ws = wd.setCell ⟨b7, 0, none⟩ (.slice A3 N c3) := ⟨_, rfl⟩
    have xs : Ext (wk.alloc (.cells #[.slice A2 N c2] 49)) ws := by rw [hws]; exact hxd.setCell (by simpa using hb7) _
    have n7s : OneC ws b7 49 (.slice A3 N c3) := by rw [hws]; exact n7.set _
    have o3s : RPts ws A3 L := by
      have h := (ownS_boxR own3 n7 (.slice A3 N c3)).hi_size.r (Nat.le_refl _)
      rw [← hws, HQ.out, HXX.out] at h
      exact h
    have xk : Ext (w1.alloc (.cells #[.slice A N c1] 49)) wk := by (repeat (first | exact Ext.refl _ | assumption | apply Ext.alloc | apply Ext.drew | apply Ext.drewN | (refine Ext.trans ?_ (by assumption))))
    have x1s : Ext (w1.alloc (.cells #[.slice A N c1] 49)) ws := xk.trans (((Ext.refl wk).alloc (.cells #[.slice A2 N c2] 49)).trans xs)
    have x0s : Ext w ws := (x1.trans ((Ext.refl w1).alloc (.cells #[.slice A N c1] 49))).trans x1s
    have HR := hide (show ∀ w', Ext ws w' → RPts w' A L from fun w' hx => r1.ext (((Ext.refl w1).alloc (.cells #[.slice A N c1] 49)).trans (x1s.trans hx)))
    have HX := hide (show ∀ w', Ext ws w' → RPts w' A2 (startL L k) from fun w' hx => r2.ext (((Ext.refl wk).alloc (.cells #[.slice A2 N c2] 49)).trans (xs.trans hx)))
    have HY := hide (show ∀ w', Ext ws w' → RPts w' A3 L from fun w' hx => o3s.ext hx)
    have HTAB := hide (show ∀ w', Ext ws w' → Lib.TabIs Tryd.prog w' "internal/strconv.uint64pow10" .u64 Lib.pow10Tab from fun w' hx => tab_ext gTab HTB.out (x0s.trans hx))
    obtain ⟨b3, hb3⟩ : ∃ b3, b3 = w1.heap.size := ⟨_, rfl⟩
    obtain ⟨b6, hb6⟩ : ∃ b6, b6 = wk.heap.size := ⟨_, rfl⟩
    have HBX := hide (show ∀ w', Ext ws w' → (w'.cell? ⟨b3, 0, none⟩ = some (.slice A N c1) ∧ b3 < w'.heap.size) ∧ (w'.cell? ⟨b6, 0, none⟩ = some (.slice A2 N c2) ∧ b6 < w'.heap.size) ∧ (w'.cell? ⟨b7, 0, none⟩ = some (.slice A3 N c3) ∧ b7 < w'.heap.size) from fun w' hx => by rw [hb3, hb6]; exact ⟨HB.out w' (x1s.trans hx), H6.out w' (xs.trans hx), ⟨(n7s.ext hx).cell.2.1, (n7s.ext hx).cell.1⟩⟩)
    have HX0 := hide x0s
    obtain ⟨T, hT⟩ : ∃ T, rtxtV L = T := ⟨_, rfl⟩
    have HTT := hide hT
    have HNT := hide (show ¬ T.toList = [] by rw [← hT]; exact bytes_nil (rtxt_ne HRO.out))
    have HHW := hide hws
    have fd := HB.out wd (xk.trans (((Ext.refl wk).alloc (.cells #[.slice A2 N c2] 49)).trans hxd))
    have zk := xk.size
    simp at zk
    have v1 : ¬ w1.heap.size = b7 := by omega
    have v2 : ¬ b7 = w1.heap.size := by omega
    rw [← hb3] at fd v1 v2
    rw [← hb3, ← hb6]
    clear HB H6 hW2 hC2 hu6 hu7 hxd n7 n7s own3 o3s xs xk x1s x0s hT r1 r2 hb3 hb6 f2 x1 x2 u1 u3 hws
    go_wp2_with fail
    rw [← HHW.out]
    clear z1 z2 z3 HHW fd
    refine (WallOf_at A L c1 N k _ _ _ _ _ HLN.out (HR.out _ (Ext.refl _)) hn10 HRO.out hkN HXY.out.1 HXY.out.2.1 HXY.out.2.2.1 HXY.out.2.2.2).mono ?_
    rintro e w8 ⟨rfl, x8⟩
    obtain ⟨b8, hb8⟩ : ∃ b8, b8 = w8.heap.size := ⟨_, rfl⟩
    obtain ⟨W8, hW8⟩ : ∃ W8, W8 = w8.alloc (.cells #[.int .i64 X0, .int .i64 Y0, .int .i64 X1, .int .i64 Y1] 57) := ⟨_, rfl⟩
    have xW8 : Ext w8 W8 := by rw [hW8]; (repeat (first | exact Ext.refl _ | assumption | apply Ext.alloc | apply Ext.drew | apply Ext.drewN | (refine Ext.trans ?_ (by assumption))))
    have xs8 : Ext ws W8 := x8.trans xW8
    have q8 : W8.heap[w8.heap.size]? = some (.cells #[.int .i64 X0, .int .i64 Y0, .int .i64 X1, .int .i64 Y1] 57 (0, 0)) := by rw [hW8]; exact heap_alloc_new w8 _
    have HBY := hide (show ∀ w', Ext W8 w' → ((w'.cell? ⟨b3, 0, none⟩ = some (.slice A N c1) ∧ b3 < w'.heap.size) ∧ (w'.cell? ⟨b6, 0, none⟩ = some (.slice A2 N c2) ∧ b6 < w'.heap.size) ∧ (w'.cell? ⟨b7, 0, none⟩ = some (.slice A3 N c3) ∧ b7 < w'.heap.size)) ∧ w'.cell? ⟨b8, 0, none⟩ = some (.int .i64 X0) ∧ w'.cell? ⟨b8, 1, none⟩ = some (.int .i64 Y0) ∧ w'.cell? ⟨b8, 2, none⟩ = some (.int .i64 X1) ∧ w'.cell? ⟨b8, 3, none⟩ = some (.int .i64 Y1) ∧ b8 < w'.heap.size from fun w' hx => by
      have h1 := heap_lt q8
      rw [hb8]
      refine ⟨HBX.out w' (xs8.trans hx), ?_, ?_, ?_, ?_, Nat.lt_of_lt_of_le h1 hx.size⟩ <;> (rw [hx.cells _ _ h1]; simp [World.cell?, q8]))
    have HE8 := hide (show Ext w W8 from HX0.out.trans xs8)
    have HHW8 := hide hW8
    have f8 := HBX.out w8 x8
    have HB8 := hide hb8
    clear hW8 xW8 q8 hb8 x8
    go_wp2_with fail
    rw [← HHW8.out, ← HB8.out]
    clear HHW8 f8 HB8
    (try simp only [List.append_eq, List.cons_append, List.nil_append])
    refine wp_flow (by kernel_rfl) (by kernel_rfl) (fun u => ⟨#[_, _, u 55, _, _, _, _, _, _, _, _, _, _, _, _, _, _, _, _, _, _, _, _, _, _, _, _, _, _, _, _, _, _, u 0, u 1, u 2, u 3, u 4, u 5, u 6, u 7, u 8, u 9, u 10, u 11, u 12, u 13, u 14, u 15, u 16, u 17, u 18, u 19, u 20, u 21, u 22, u 23, u 24, u 25, u 26, u 27, u 28, u 29, u 30, u 31, u 32, u 33, u 34, u 35, u 36, u 37, u 38, u 39, u 40, u 41, u 42, u 43, u 44, u 45, u 46, u 47, u 48, u 49, u 50, u 51, u 52, u 53, u 54], _⟩) (fun i => List.getD [_, _, _, _, _, _, _, _, _, _, _, _, _, _, _, _, _, _, _, _, _, _, _, _, _, _, _, _, _, _, _, _, _, _, _, _, _, _, _, _, _, _, _, _, _, _, _, _, _, _, _, _, _, _, _, _] i undef) [is (.agg #[.slice A N c1]), is (.bool true), is (.bool true), is (.agg #[.slice A2 N c2]), is (.bool true), is (.bool true), is (.bool true), is (.agg #[.slice A3 N c3]), is (.string T), is (.agg #[.slice A N c1]), is (.string T), is (.bool true), is (.bool true), is (.bool true), is (.agg #[.slice A N c1]), is (.string T), is (.bool true), is (.bool true), is (.bool true), is (.agg #[.slice A N c1]), is (.agg #[.slice A N c1]), is (.int .i64 ((k : Int))), is (.agg #[.int .i64 X0, .int .i64 Y0]), is (.int .i64 ((k : Int))), is (.int .i64 ((k : Int))), is (.bool true), is (.bool true), is (.bool true), is (.agg #[.slice A N c1]), is (.int .i64 ((k : Int))), is (.int .i64 ((N : Int))), is (.int .i64 ((k : Int) - (N : Int))), is (.agg #[.int .i64 X0, .int .i64 Y0]), is (.agg #[.slice A N c1]), is (.int .i64 ((k : Int))), is (.agg #[.int .i64 X0, .int .i64 Y0]), is (.bool true), is (.bool true), is (.bool true), is (.pointer (some ⟨b8, 0, none⟩)), is (.agg #[.int .i64 X0, .int .i64 Y0]), is (.agg #[.slice A N c1]), is (.int .i64 ((k : Int))), is (.agg #[.int .i64 X0, .int .i64 Y0]), is (.bool true), is (.bool true), is (.bool true), is (.pointer (some ⟨b8, 2, none⟩)), is (.agg #[.int .i64 X1, .int .i64 Y1]), is (.agg #[.slice A N c1]), is (.int .i64 ((k : Int))), is (.int .i64 ((k : Int) + 1)), is (.agg #[.int .i64 X1, .int .i64 Y1]), is (.bool true), is (.bool true), is (.bool true)] (fun w' => ((w'.cell? ⟨b3, 0, none⟩ = some (.slice A N c1) ∧ b3 < w'.heap.size) ∧ (w'.cell? ⟨b6, 0, none⟩ = some (.slice A2 N c2) ∧ b6 < w'.heap.size) ∧ (w'.cell? ⟨b7, 0, none⟩ = some (.slice A3 N c3) ∧ b7 < w'.heap.size)) ∧ w'.cell? ⟨b8, 0, none⟩ = some (.int .i64 X0) ∧ w'.cell? ⟨b8, 1, none⟩ = some (.int .i64 Y0) ∧ w'.cell? ⟨b8, 2, none⟩ = some (.int .i64 X1) ∧ w'.cell? ⟨b8, 3, none⟩ = some (.int .i64 Y1) ∧ b8 < w'.heap.size) _ rfl ?hC2 ?hs2 ?hV2 ?fin2
    case hC2 => exact fun w' hx => HBY.out w' hx
    case hs2 =>
      refine FSteps.cons (FStep.value (.agg #[.slice A N c1]) (fun _ _ _ => wanted_none rfl) (fun _ _ => rfl) (fun _ => rfl) (fun u w hW hC (hd : After _ _ u w) ρ hρ => ?_)) ?_
      · have r3 : ρ (.tmp 3) = .pointer (some ⟨b3, 0, none⟩) := (by subst hρ; rfl); clear hρ hd
        (go_simp; (try (first | exact wrap_in _ (by omega) (by omega) | exact HNT.out)))
      refine FSteps.cons (FStep.callC (.bool true) _ #[.agg #[.slice A N c1]] (fun _ _ _ => wanted_none rfl) (fun _ _ => rfl) (fun _ => rfl) (fun u w hW hC (hd : After _ _ u w) ρ hρ => ?_) (fun w hW => RoomOk_at A L c1 N w HLN.out (HR.out w (by (repeat (first | exact Ext.refl _ | assumption | apply Ext.alloc | apply Ext.drew | apply Ext.drewN | (refine Ext.trans ?_ (by assumption)))))) hn10 HRO.out)) ?_
      · have r33 : ρ (.tmp 33) = .agg #[.slice A N c1] := (by rw [hρ]; exact hd.get 0 _ rfl rfl); have rf : ∀ f, ρ (.func f) = .func (.func f) #[] #[] := (by subst hρ; exact fun _ => rfl); clear hρ hd
        (go_simp; (try (first | exact wrap_in _ (by omega) (by omega) | exact HNT.out)))
      refine FSteps.cons (FStep.value (.bool true) (fun _ _ _ => wanted_none rfl) (fun _ _ => rfl) (fun _ => rfl) (fun u w hW hC (hd : After _ _ u w) ρ hρ => ?_)) ?_
      · have r34 : ρ (.tmp 34) = .bool true := (by rw [hρ]; exact hd.get 0 _ rfl rfl); clear hρ hd
        (go_simp; (try (first | exact wrap_in _ (by omega) (by omega) | exact HNT.out)))
      refine FSteps.cons (FStep.value (.agg #[.slice A2 N c2]) (fun u w hd => wanted_on 2 35 true rfl rfl (congrArg some (hd.get 0 _ rfl rfl))) (fun _ _ => rfl) (fun _ => rfl) (fun u w hW hC (hd : After _ _ u w) ρ hρ => ?_)) ?_
      · have r6 : ρ (.tmp 6) = .pointer (some ⟨b6, 0, none⟩) := (by subst hρ; rfl); clear hρ hd
        (go_simp; (try (first | exact wrap_in _ (by omega) (by omega) | exact HNT.out)))
      refine FSteps.cons (FStep.callC (.bool true) _ #[.agg #[.slice A2 N c2]] (fun u w hd => wanted_on 2 35 true rfl rfl (congrArg some (hd.get 1 _ rfl rfl))) (fun _ _ => rfl) (fun _ => rfl) (fun u w hW hC (hd : After _ _ u w) ρ hρ => ?_) (fun w hW => RoomOk_at A2 _ c2 N w HLX.out (HX.out w (by (repeat (first | exact Ext.refl _ | assumption | apply Ext.alloc | apply Ext.drew | apply Ext.drewN | (refine Ext.trans ?_ (by assumption)))))) hn10 HRX.out)) ?_
      · have r36 : ρ (.tmp 36) = .agg #[.slice A2 N c2] := (by rw [hρ]; exact hd.get 0 _ rfl rfl); have rf : ∀ f, ρ (.func f) = .func (.func f) #[] #[] := (by subst hρ; exact fun _ => rfl); clear hρ hd
        (go_simp; (try (first | exact wrap_in _ (by omega) (by omega) | exact HNT.out)))
      refine FSteps.cons (FStep.value (.bool true) (fun _ _ _ => wanted_none rfl) (fun _ _ => rfl) (fun _ => rfl) (fun u w hW hC (hd : After _ _ u w) ρ hρ => ?_)) ?_
      · have r35 : ρ (.tmp 35) = .bool true := (by rw [hρ]; exact hd.get 0 _ rfl rfl); have r37 : ρ (.tmp 37) = .bool true := (by rw [hρ]; exact hd.get 1 _ rfl rfl); have rc : ∀ v, ρ (.const v) = v := (by subst hρ; exact fun _ => rfl); clear hρ hd
        (go_simp; (try (first | exact wrap_in _ (by omega) (by omega) | exact HNT.out)))
      refine FSteps.cons (FStep.value (.bool true) (fun _ _ _ => wanted_none rfl) (fun _ _ => rfl) (fun _ => rfl) (fun u w hW hC (hd : After _ _ u w) ρ hρ => ?_)) ?_
      · have r38 : ρ (.tmp 38) = .bool true := (by rw [hρ]; exact hd.get 0 _ rfl rfl); clear hρ hd
        (go_simp; (try (first | exact wrap_in _ (by omega) (by omega) | exact HNT.out)))
      refine FSteps.cons (FStep.value (.agg #[.slice A3 N c3]) (fun u w hd => wanted_on 6 39 true rfl rfl (congrArg some (hd.get 0 _ rfl rfl))) (fun _ _ => rfl) (fun _ => rfl) (fun u w hW hC (hd : After _ _ u w) ρ hρ => ?_)) ?_
      · have r7 : ρ (.tmp 7) = .pointer (some ⟨b7, 0, none⟩) := (by subst hρ; rfl); clear hρ hd
        (go_simp; (try (first | exact wrap_in _ (by omega) (by omega) | exact HNT.out)))
      refine FSteps.cons (FStep.callC (.string T) _ #[.agg #[.slice A3 N c3]] (fun u w hd => wanted_on 6 39 true rfl rfl (congrArg some (hd.get 1 _ rfl rfl))) (fun _ _ => rfl) (fun _ => rfl) (fun u w hW hC (hd : After _ _ u w) ρ hρ => ?_) (fun w hW => RoomText_at A3 L c3 N T w HLN.out (HY.out w (by (repeat (first | exact Ext.refl _ | assumption | apply Ext.alloc | apply Ext.drew | apply Ext.drewN | (refine Ext.trans ?_ (by assumption)))))) hn10 (HTAB.out w (by (repeat (first | exact Ext.refl _ | assumption | apply Ext.alloc | apply Ext.drew | apply Ext.drewN | (refine Ext.trans ?_ (by assumption)))))) HTT.out)) ?_
      · have r40 : ρ (.tmp 40) = .agg #[.slice A3 N c3] := (by rw [hρ]; exact hd.get 0 _ rfl rfl); have rf : ∀ f, ρ (.func f) = .func (.func f) #[] #[] := (by subst hρ; exact fun _ => rfl); clear hρ hd
        (go_simp; (try (first | exact wrap_in _ (by omega) (by omega) | exact HNT.out)))
      refine FSteps.cons (FStep.value (.agg #[.slice A N c1]) (fun u w hd => wanted_on 6 39 true rfl rfl (congrArg some (hd.get 0 _ rfl rfl))) (fun _ _ => rfl) (fun _ => rfl) (fun u w hW hC (hd : After _ _ u w) ρ hρ => ?_)) ?_
      · have r3 : ρ (.tmp 3) = .pointer (some ⟨b3, 0, none⟩) := (by subst hρ; rfl); clear hρ hd
        (go_simp; (try (first | exact wrap_in _ (by omega) (by omega) | exact HNT.out)))
      refine FSteps.cons (FStep.callC (.string T) _ #[.agg #[.slice A N c1]] (fun u w hd => wanted_on 6 39 true rfl rfl (congrArg some (hd.get 2 _ rfl rfl))) (fun _ _ => rfl) (fun _ => rfl) (fun u w hW hC (hd : After _ _ u w) ρ hρ => ?_) (fun w hW => RoomText_at A L c1 N T w HLN.out (HR.out w (by (repeat (first | exact Ext.refl _ | assumption | apply Ext.alloc | apply Ext.drew | apply Ext.drewN | (refine Ext.trans ?_ (by assumption)))))) hn10 (HTAB.out w (by (repeat (first | exact Ext.refl _ | assumption | apply Ext.alloc | apply Ext.drew | apply Ext.drewN | (refine Ext.trans ?_ (by assumption)))))) HTT.out)) ?_
      · have r42 : ρ (.tmp 42) = .agg #[.slice A N c1] := (by rw [hρ]; exact hd.get 0 _ rfl rfl); have rf : ∀ f, ρ (.func f) = .func (.func f) #[] #[] := (by subst hρ; exact fun _ => rfl); clear hρ hd
        (go_simp; (try (first | exact wrap_in _ (by omega) (by omega) | exact HNT.out)))
      refine FSteps.cons (FStep.value (.bool true) (fun u w hd => wanted_on 6 39 true rfl rfl (congrArg some (hd.get 2 _ rfl rfl))) (fun _ _ => rfl) (fun _ => rfl) (fun u w hW hC (hd : After _ _ u w) ρ hρ => ?_)) ?_
      · have r41 : ρ (.tmp 41) = .string T := (by rw [hρ]; exact hd.get 0 _ rfl rfl); have r43 : ρ (.tmp 43) = .string T := (by rw [hρ]; exact hd.get 1 _ rfl rfl); clear hρ hd
        (go_simp; (try (first | exact wrap_in _ (by omega) (by omega) | exact HNT.out)))
      refine FSteps.cons (FStep.value (.bool true) (fun _ _ _ => wanted_none rfl) (fun _ _ => rfl) (fun _ => rfl) (fun u w hW hC (hd : After _ _ u w) ρ hρ => ?_)) ?_
      · have r39 : ρ (.tmp 39) = .bool true := (by rw [hρ]; exact hd.get 0 _ rfl rfl); have r44 : ρ (.tmp 44) = .bool true := (by rw [hρ]; exact hd.get 1 _ rfl rfl); have rc : ∀ v, ρ (.const v) = v := (by subst hρ; exact fun _ => rfl); clear hρ hd
        (go_simp; (try (first | exact wrap_in _ (by omega) (by omega) | exact HNT.out)))
      refine FSteps.cons (FStep.value (.bool true) (fun _ _ _ => wanted_none rfl) (fun _ _ => rfl) (fun _ => rfl) (fun u w hW hC (hd : After _ _ u w) ρ hρ => ?_)) ?_
      · have r45 : ρ (.tmp 45) = .bool true := (by rw [hρ]; exact hd.get 0 _ rfl rfl); clear hρ hd
        (go_simp; (try (first | exact wrap_in _ (by omega) (by omega) | exact HNT.out)))
      refine FSteps.cons (FStep.value (.agg #[.slice A N c1]) (fun u w hd => wanted_on 13 46 true rfl rfl (congrArg some (hd.get 0 _ rfl rfl))) (fun _ _ => rfl) (fun _ => rfl) (fun u w hW hC (hd : After _ _ u w) ρ hρ => ?_)) ?_
      · have r3 : ρ (.tmp 3) = .pointer (some ⟨b3, 0, none⟩) := (by subst hρ; rfl); clear hρ hd
        (go_simp; (try (first | exact wrap_in _ (by omega) (by omega) | exact HNT.out)))
      refine FSteps.cons (FStep.callC (.string T) _ #[.agg #[.slice A N c1]] (fun u w hd => wanted_on 13 46 true rfl rfl (congrArg some (hd.get 1 _ rfl rfl))) (fun _ _ => rfl) (fun _ => rfl) (fun u w hW hC (hd : After _ _ u w) ρ hρ => ?_) (fun w hW => RoomText_at A L c1 N T w HLN.out (HR.out w (by (repeat (first | exact Ext.refl _ | assumption | apply Ext.alloc | apply Ext.drew | apply Ext.drewN | (refine Ext.trans ?_ (by assumption)))))) hn10 (HTAB.out w (by (repeat (first | exact Ext.refl _ | assumption | apply Ext.alloc | apply Ext.drew | apply Ext.drewN | (refine Ext.trans ?_ (by assumption)))))) HTT.out)) ?_
      · have r47 : ρ (.tmp 47) = .agg #[.slice A N c1] := (by rw [hρ]; exact hd.get 0 _ rfl rfl); have rf : ∀ f, ρ (.func f) = .func (.func f) #[] #[] := (by subst hρ; exact fun _ => rfl); clear hρ hd
        (go_simp; (try (first | exact wrap_in _ (by omega) (by omega) | exact HNT.out)))
      refine FSteps.cons (FStep.value (.bool true) (fun u w hd => wanted_on 13 46 true rfl rfl (congrArg some (hd.get 1 _ rfl rfl))) (fun _ _ => rfl) (fun _ => rfl) (fun u w hW hC (hd : After _ _ u w) ρ hρ => ?_)) ?_
      · have r48 : ρ (.tmp 48) = .string T := (by rw [hρ]; exact hd.get 0 _ rfl rfl); have rc : ∀ v, ρ (.const v) = v := (by subst hρ; exact fun _ => rfl); clear hρ hd
        (go_simp; (try (first | exact wrap_in _ (by omega) (by omega) | exact HNT.out)))
      refine FSteps.cons (FStep.value (.bool true) (fun _ _ _ => wanted_none rfl) (fun _ _ => rfl) (fun _ => rfl) (fun u w hW hC (hd : After _ _ u w) ρ hρ => ?_)) ?_
      · have r46 : ρ (.tmp 46) = .bool true := (by rw [hρ]; exact hd.get 0 _ rfl rfl); have r49 : ρ (.tmp 49) = .bool true := (by rw [hρ]; exact hd.get 1 _ rfl rfl); have rc : ∀ v, ρ (.const v) = v := (by subst hρ; exact fun _ => rfl); clear hρ hd
        (go_simp; (try (first | exact wrap_in _ (by omega) (by omega) | exact HNT.out)))
      refine FSteps.cons (FStep.value (.bool true) (fun _ _ _ => wanted_none rfl) (fun _ _ => rfl) (fun _ => rfl) (fun u w hW hC (hd : After _ _ u w) ρ hρ => ?_)) ?_
      · have r50 : ρ (.tmp 50) = .bool true := (by rw [hρ]; exact hd.get 0 _ rfl rfl); clear hρ hd
        (go_simp; (try (first | exact wrap_in _ (by omega) (by omega) | exact HNT.out)))
      refine FSteps.cons (FStep.value (.agg #[.slice A N c1]) (fun u w hd => wanted_on 18 51 true rfl rfl (congrArg some (hd.get 0 _ rfl rfl))) (fun _ _ => rfl) (fun _ => rfl) (fun u w hW hC (hd : After _ _ u w) ρ hρ => ?_)) ?_
      · have r3 : ρ (.tmp 3) = .pointer (some ⟨b3, 0, none⟩) := (by subst hρ; rfl); clear hρ hd
        (go_simp; (try (first | exact wrap_in _ (by omega) (by omega) | exact HNT.out)))
      refine FSteps.cons (FStep.value (.agg #[.slice A N c1]) (fun u w hd => wanted_on 18 51 true rfl rfl (congrArg some (hd.get 0 _ rfl rfl))) (fun _ _ => rfl) (fun _ => rfl) (fun u w hW hC (hd : After _ _ u w) ρ hρ => ?_)) ?_
      · have r3 : ρ (.tmp 3) = .pointer (some ⟨b3, 0, none⟩) := (by subst hρ; rfl); clear hρ hd
        (go_simp; (try (first | exact wrap_in _ (by omega) (by omega) | exact HNT.out)))
      refine FSteps.cons (FStep.value (.int .i64 ((k : Int))) (fun u w hd => wanted_on 18 51 true rfl rfl (congrArg some (hd.get 0 _ rfl rfl))) (fun _ _ => rfl) (fun _ => rfl) (fun u w hW hC (hd : After _ _ u w) ρ hρ => ?_)) ?_
      · have r5 : ρ (.tmp 5) = .int .i64 ((k : Int)) := (by subst hρ; rfl); clear hρ hd
        (go_simp; (try (first | exact wrap_in _ (by omega) (by omega) | exact HNT.out)))
      refine FSteps.cons (FStep.callC (.agg #[.int .i64 X0, .int .i64 Y0]) _ #[.agg #[.slice A N c1], .int .i64 ((k : Int))] (fun u w hd => wanted_on 18 51 true rfl rfl (congrArg some (hd.get 2 _ rfl rfl))) (fun _ _ => rfl) (fun _ => rfl) (fun u w hW hC (hd : After _ _ u w) ρ hρ => ?_) (fun w hW => CornerAt_at A L c1 N _ _ _ w HLN.out (HR.out w (by (repeat (first | exact Ext.refl _ | assumption | apply Ext.alloc | apply Ext.drew | apply Ext.drewN | (refine Ext.trans ?_ (by assumption)))))) hn10 HC1.out.1 HC1.out.2)) ?_
      · have r53 : ρ (.tmp 53) = .agg #[.slice A N c1] := (by rw [hρ]; exact hd.get 0 _ rfl rfl); have r54 : ρ (.tmp 54) = .int .i64 ((k : Int)) := (by rw [hρ]; exact hd.get 1 _ rfl rfl); have rf : ∀ f, ρ (.func f) = .func (.func f) #[] #[] := (by subst hρ; exact fun _ => rfl); clear hρ hd
        (go_simp; (try (first | exact wrap_in _ (by omega) (by omega) | exact HNT.out)))
      refine FSteps.cons (FStep.callC (.int .i64 ((k : Int))) _ #[.agg #[.slice A N c1], .agg #[.int .i64 X0, .int .i64 Y0]] (fun u w hd => wanted_on 18 51 true rfl rfl (congrArg some (hd.get 3 _ rfl rfl))) (fun _ _ => rfl) (fun _ => rfl) (fun u w hW hC (hd : After _ _ u w) ρ hρ => ?_) (fun w hW => IsCorner_at A L c1 N _ _ _ w HLN.out (HR.out w (by (repeat (first | exact Ext.refl _ | assumption | apply Ext.alloc | apply Ext.drew | apply Ext.drewN | (refine Ext.trans ?_ (by assumption)))))) hn10 HIC.out)) ?_
      · have r52 : ρ (.tmp 52) = .agg #[.slice A N c1] := (by rw [hρ]; exact hd.get 0 _ rfl rfl); have r55 : ρ (.tmp 55) = .agg #[.int .i64 X0, .int .i64 Y0] := (by rw [hρ]; exact hd.get 1 _ rfl rfl); have rf : ∀ f, ρ (.func f) = .func (.func f) #[] #[] := (by subst hρ; exact fun _ => rfl); clear hρ hd
        (go_simp; (try (first | exact wrap_in _ (by omega) (by omega) | exact HNT.out)))
      refine FSteps.cons (FStep.value (.int .i64 ((k : Int))) (fun u w hd => wanted_on 18 51 true rfl rfl (congrArg some (hd.get 0 _ rfl rfl))) (fun _ _ => rfl) (fun _ => rfl) (fun u w hW hC (hd : After _ _ u w) ρ hρ => ?_)) ?_
      · have r5 : ρ (.tmp 5) = .int .i64 ((k : Int)) := (by subst hρ; rfl); clear hρ hd
        (go_simp; (try (first | exact wrap_in _ (by omega) (by omega) | exact HNT.out)))
      refine FSteps.cons (FStep.value (.bool true) (fun u w hd => wanted_on 18 51 true rfl rfl (congrArg some (hd.get 2 _ rfl rfl))) (fun _ _ => rfl) (fun _ => rfl) (fun u w hW hC (hd : After _ _ u w) ρ hρ => ?_)) ?_
      · have r56 : ρ (.tmp 56) = .int .i64 ((k : Int)) := (by rw [hρ]; exact hd.get 0 _ rfl rfl); have r57 : ρ (.tmp 57) = .int .i64 ((k : Int)) := (by rw [hρ]; exact hd.get 1 _ rfl rfl); clear hρ hd
        (go_simp; (try (first | exact wrap_in _ (by omega) (by omega) | exact HNT.out)))
      refine FSteps.cons (FStep.value (.bool true) (fun _ _ _ => wanted_none rfl) (fun _ _ => rfl) (fun _ => rfl) (fun u w hW hC (hd : After _ _ u w) ρ hρ => ?_)) ?_
      · have r51 : ρ (.tmp 51) = .bool true := (by rw [hρ]; exact hd.get 0 _ rfl rfl); have r58 : ρ (.tmp 58) = .bool true := (by rw [hρ]; exact hd.get 1 _ rfl rfl); have rc : ∀ v, ρ (.const v) = v := (by subst hρ; exact fun _ => rfl); clear hρ hd
        (go_simp; (try (first | exact wrap_in _ (by omega) (by omega) | exact HNT.out)))
      refine FSteps.cons (FStep.value (.bool true) (fun _ _ _ => wanted_none rfl) (fun _ _ => rfl) (fun _ => rfl) (fun u w hW hC (hd : After _ _ u w) ρ hρ => ?_)) ?_
      · have r59 : ρ (.tmp 59) = .bool true := (by rw [hρ]; exact hd.get 0 _ rfl rfl); clear hρ hd
        (go_simp; (try (first | exact wrap_in _ (by omega) (by omega) | exact HNT.out)))
      refine FSteps.cons (FStep.value (.agg #[.slice A N c1]) (fun u w hd => wanted_on 27 60 true rfl rfl (congrArg some (hd.get 0 _ rfl rfl))) (fun _ _ => rfl) (fun _ => rfl) (fun u w hW hC (hd : After _ _ u w) ρ hρ => ?_)) ?_
      · have r3 : ρ (.tmp 3) = .pointer (some ⟨b3, 0, none⟩) := (by subst hρ; rfl); clear hρ hd
        (go_simp; (try (first | exact wrap_in _ (by omega) (by omega) | exact HNT.out)))
      refine FSteps.cons (FStep.value (.int .i64 ((k : Int))) (fun u w hd => wanted_on 27 60 true rfl rfl (congrArg some (hd.get 0 _ rfl rfl))) (fun _ _ => rfl) (fun _ => rfl) (fun u w hW hC (hd : After _ _ u w) ρ hρ => ?_)) ?_
      · have r5 : ρ (.tmp 5) = .int .i64 ((k : Int)) := (by subst hρ; rfl); clear hρ hd
        (go_simp; (try (first | exact wrap_in _ (by omega) (by omega) | exact HNT.out)))
      refine FSteps.cons (FStep.value (.int .i64 ((N : Int))) (fun u w hd => wanted_on 27 60 true rfl rfl (congrArg some (hd.get 0 _ rfl rfl))) (fun _ _ => rfl) (fun _ => rfl) (fun u w hW hC (hd : After _ _ u w) ρ hρ => ?_)) ?_
      · have r4 : ρ (.tmp 4) = .int .i64 ((N : Int)) := (by subst hρ; rfl); clear hρ hd
        (go_simp; (try (first | exact wrap_in _ (by omega) (by omega) | exact HNT.out)))
      refine FSteps.cons (FStep.value (.int .i64 ((k : Int) - (N : Int))) (fun u w hd => wanted_on 27 60 true rfl rfl (congrArg some (hd.get 2 _ rfl rfl))) (fun _ _ => rfl) (fun _ => rfl) (fun u w hW hC (hd : After _ _ u w) ρ hρ => ?_)) ?_
      · have r62 : ρ (.tmp 62) = .int .i64 ((k : Int)) := (by rw [hρ]; exact hd.get 0 _ rfl rfl); have r63 : ρ (.tmp 63) = .int .i64 ((N : Int)) := (by rw [hρ]; exact hd.get 1 _ rfl rfl); clear hρ hd
        (go_simp; (try (first | exact wrap_in _ (by omega) (by omega) | exact HNT.out)))
      refine FSteps.cons (FStep.callC (.agg #[.int .i64 X0, .int .i64 Y0]) _ #[.agg #[.slice A N c1], .int .i64 ((k : Int) - (N : Int))] (fun u w hd => wanted_on 27 60 true rfl rfl (congrArg some (hd.get 2 _ rfl rfl))) (fun _ _ => rfl) (fun _ => rfl) (fun u w hW hC (hd : After _ _ u w) ρ hρ => ?_) (fun w hW => CornerAt_at A L c1 N _ _ _ w HLN.out (HR.out w (by (repeat (first | exact Ext.refl _ | assumption | apply Ext.alloc | apply Ext.drew | apply Ext.drewN | (refine Ext.trans ?_ (by assumption)))))) hn10 HC2.out.1 HC2.out.2)) ?_
      · have r61 : ρ (.tmp 61) = .agg #[.slice A N c1] := (by rw [hρ]; exact hd.get 0 _ rfl rfl); have r64 : ρ (.tmp 64) = .int .i64 ((k : Int) - (N : Int)) := (by rw [hρ]; exact hd.get 1 _ rfl rfl); have rf : ∀ f, ρ (.func f) = .func (.func f) #[] #[] := (by subst hρ; exact fun _ => rfl); clear hρ hd
        (go_simp; (try (first | exact wrap_in _ (by omega) (by omega) | exact HNT.out)))
      refine FSteps.cons (FStep.value (.agg #[.slice A N c1]) (fun u w hd => wanted_on 27 60 true rfl rfl (congrArg some (hd.get 0 _ rfl rfl))) (fun _ _ => rfl) (fun _ => rfl) (fun u w hW hC (hd : After _ _ u w) ρ hρ => ?_)) ?_
      · have r3 : ρ (.tmp 3) = .pointer (some ⟨b3, 0, none⟩) := (by subst hρ; rfl); clear hρ hd
        (go_simp; (try (first | exact wrap_in _ (by omega) (by omega) | exact HNT.out)))
      refine FSteps.cons (FStep.value (.int .i64 ((k : Int))) (fun u w hd => wanted_on 27 60 true rfl rfl (congrArg some (hd.get 0 _ rfl rfl))) (fun _ _ => rfl) (fun _ => rfl) (fun u w hW hC (hd : After _ _ u w) ρ hρ => ?_)) ?_
      · have r5 : ρ (.tmp 5) = .int .i64 ((k : Int)) := (by subst hρ; rfl); clear hρ hd
        (go_simp; (try (first | exact wrap_in _ (by omega) (by omega) | exact HNT.out)))
      refine FSteps.cons (FStep.callC (.agg #[.int .i64 X0, .int .i64 Y0]) _ #[.agg #[.slice A N c1], .int .i64 ((k : Int))] (fun u w hd => wanted_on 27 60 true rfl rfl (congrArg some (hd.get 3 _ rfl rfl))) (fun _ _ => rfl) (fun _ => rfl) (fun u w hW hC (hd : After _ _ u w) ρ hρ => ?_) (fun w hW => CornerAt_at A L c1 N _ _ _ w HLN.out (HR.out w (by (repeat (first | exact Ext.refl _ | assumption | apply Ext.alloc | apply Ext.drew | apply Ext.drewN | (refine Ext.trans ?_ (by assumption)))))) hn10 HC1.out.1 HC1.out.2)) ?_
      · have r66 : ρ (.tmp 66) = .agg #[.slice A N c1] := (by rw [hρ]; exact hd.get 0 _ rfl rfl); have r67 : ρ (.tmp 67) = .int .i64 ((k : Int)) := (by rw [hρ]; exact hd.get 1 _ rfl rfl); have rf : ∀ f, ρ (.func f) = .func (.func f) #[] #[] := (by subst hρ; exact fun _ => rfl); clear hρ hd
        (go_simp; (try (first | exact wrap_in _ (by omega) (by omega) | exact HNT.out)))
      refine FSteps.cons (FStep.value (.bool true) (fun u w hd => wanted_on 27 60 true rfl rfl (congrArg some (hd.get 2 _ rfl rfl))) (fun _ _ => rfl) (fun _ => rfl) (fun u w hW hC (hd : After _ _ u w) ρ hρ => ?_)) ?_
      · have r65 : ρ (.tmp 65) = .agg #[.int .i64 X0, .int .i64 Y0] := (by rw [hρ]; exact hd.get 0 _ rfl rfl); have r68 : ρ (.tmp 68) = .agg #[.int .i64 X0, .int .i64 Y0] := (by rw [hρ]; exact hd.get 1 _ rfl rfl); clear hρ hd
        (go_simp; (try (first | exact wrap_in _ (by omega) (by omega) | exact HNT.out)))
      refine FSteps.cons (FStep.value (.bool true) (fun _ _ _ => wanted_none rfl) (fun _ _ => rfl) (fun _ => rfl) (fun u w hW hC (hd : After _ _ u w) ρ hρ => ?_)) ?_
      · have r60 : ρ (.tmp 60) = .bool true := (by rw [hρ]; exact hd.get 0 _ rfl rfl); have r69 : ρ (.tmp 69) = .bool true := (by rw [hρ]; exact hd.get 1 _ rfl rfl); have rc : ∀ v, ρ (.const v) = v := (by subst hρ; exact fun _ => rfl); clear hρ hd
        (go_simp; (try (first | exact wrap_in _ (by omega) (by omega) | exact HNT.out)))
      refine FSteps.cons (FStep.value (.bool true) (fun _ _ _ => wanted_none rfl) (fun _ _ => rfl) (fun _ => rfl) (fun u w hW hC (hd : After _ _ u w) ρ hρ => ?_)) ?_
      · have r70 : ρ (.tmp 70) = .bool true := (by rw [hρ]; exact hd.get 0 _ rfl rfl); clear hρ hd
        (go_simp; (try (first | exact wrap_in _ (by omega) (by omega) | exact HNT.out)))
      refine FSteps.cons (FStep.value (.pointer (some ⟨b8, 0, none⟩)) (fun u w hd => wanted_on 38 71 true rfl rfl (congrArg some (hd.get 0 _ rfl rfl))) (fun _ _ => rfl) (fun _ => rfl) (fun u w hW hC (hd : After _ _ u w) ρ hρ => ?_)) ?_
      · have r8 : ρ (.tmp 8) = .pointer (some ⟨b8, 0, none⟩) := (by subst hρ; rfl); clear hρ hd
        (go_simp; (try (first | exact wrap_in _ (by omega) (by omega) | exact HNT.out)))
      refine FSteps.cons (FStep.value (.agg #[.int .i64 X0, .int .i64 Y0]) (fun u w hd => wanted_on 38 71 true rfl rfl (congrArg some (hd.get 1 _ rfl rfl))) (fun _ _ => rfl) (fun _ => rfl) (fun u w hW hC (hd : After _ _ u w) ρ hρ => ?_)) ?_
      · have r72 : ρ (.tmp 72) = .pointer (some ⟨b8, 0, none⟩) := (by rw [hρ]; exact hd.get 0 _ rfl rfl); clear hρ hd
        (go_simp; (try (first | exact wrap_in _ (by omega) (by omega) | exact HNT.out)))
      refine FSteps.cons (FStep.value (.agg #[.slice A N c1]) (fun u w hd => wanted_on 38 71 true rfl rfl (congrArg some (hd.get 0 _ rfl rfl))) (fun _ _ => rfl) (fun _ => rfl) (fun u w hW hC (hd : After _ _ u w) ρ hρ => ?_)) ?_
      · have r3 : ρ (.tmp 3) = .pointer (some ⟨b3, 0, none⟩) := (by subst hρ; rfl); clear hρ hd
        (go_simp; (try (first | exact wrap_in _ (by omega) (by omega) | exact HNT.out)))
      refine FSteps.cons (FStep.value (.int .i64 ((k : Int))) (fun u w hd => wanted_on 38 71 true rfl rfl (congrArg some (hd.get 0 _ rfl rfl))) (fun _ _ => rfl) (fun _ => rfl) (fun u w hW hC (hd : After _ _ u w) ρ hρ => ?_)) ?_
      · have r5 : ρ (.tmp 5) = .int .i64 ((k : Int)) := (by subst hρ; rfl); clear hρ hd
        (go_simp; (try (first | exact wrap_in _ (by omega) (by omega) | exact HNT.out)))
      refine FSteps.cons (FStep.callC (.agg #[.int .i64 X0, .int .i64 Y0]) _ #[.agg #[.slice A N c1], .int .i64 ((k : Int))] (fun u w hd => wanted_on 38 71 true rfl rfl (congrArg some (hd.get 2 _ rfl rfl))) (fun _ _ => rfl) (fun _ => rfl) (fun u w hW hC (hd : After _ _ u w) ρ hρ => ?_) (fun w hW => CornerAt_at A L c1 N _ _ _ w HLN.out (HR.out w (by (repeat (first | exact Ext.refl _ | assumption | apply Ext.alloc | apply Ext.drew | apply Ext.drewN | (refine Ext.trans ?_ (by assumption)))))) hn10 HC1.out.1 HC1.out.2)) ?_
      · have r74 : ρ (.tmp 74) = .agg #[.slice A N c1] := (by rw [hρ]; exact hd.get 0 _ rfl rfl); have r75 : ρ (.tmp 75) = .int .i64 ((k : Int)) := (by rw [hρ]; exact hd.get 1 _ rfl rfl); have rf : ∀ f, ρ (.func f) = .func (.func f) #[] #[] := (by subst hρ; exact fun _ => rfl); clear hρ hd
        (go_simp; (try (first | exact wrap_in _ (by omega) (by omega) | exact HNT.out)))
      refine FSteps.cons (FStep.value (.bool true) (fun u w hd => wanted_on 38 71 true rfl rfl (congrArg some (hd.get 2 _ rfl rfl))) (fun _ _ => rfl) (fun _ => rfl) (fun u w hW hC (hd : After _ _ u w) ρ hρ => ?_)) ?_
      · have r73 : ρ (.tmp 73) = .agg #[.int .i64 X0, .int .i64 Y0] := (by rw [hρ]; exact hd.get 0 _ rfl rfl); have r76 : ρ (.tmp 76) = .agg #[.int .i64 X0, .int .i64 Y0] := (by rw [hρ]; exact hd.get 1 _ rfl rfl); clear hρ hd
        (go_simp; (try (first | exact wrap_in _ (by omega) (by omega) | exact HNT.out)))
      refine FSteps.cons (FStep.value (.bool true) (fun _ _ _ => wanted_none rfl) (fun _ _ => rfl) (fun _ => rfl) (fun u w hW hC (hd : After _ _ u w) ρ hρ => ?_)) ?_
      · have r71 : ρ (.tmp 71) = .bool true := (by rw [hρ]; exact hd.get 0 _ rfl rfl); have r77 : ρ (.tmp 77) = .bool true := (by rw [hρ]; exact hd.get 1 _ rfl rfl); have rc : ∀ v, ρ (.const v) = v := (by subst hρ; exact fun _ => rfl); clear hρ hd
        (go_simp; (try (first | exact wrap_in _ (by omega) (by omega) | exact HNT.out)))
      refine FSteps.cons (FStep.value (.bool true) (fun _ _ _ => wanted_none rfl) (fun _ _ => rfl) (fun _ => rfl) (fun u w hW hC (hd : After _ _ u w) ρ hρ => ?_)) ?_
      · have r78 : ρ (.tmp 78) = .bool true := (by rw [hρ]; exact hd.get 0 _ rfl rfl); clear hρ hd
        (go_simp; (try (first | exact wrap_in _ (by omega) (by omega) | exact HNT.out)))
      refine FSteps.cons (FStep.value (.pointer (some ⟨b8, 2, none⟩)) (fun u w hd => wanted_on 46 79 true rfl rfl (congrArg some (hd.get 0 _ rfl rfl))) (fun _ _ => rfl) (fun _ => rfl) (fun u w hW hC (hd : After _ _ u w) ρ hρ => ?_)) ?_
      · have r8 : ρ (.tmp 8) = .pointer (some ⟨b8, 0, none⟩) := (by subst hρ; rfl); clear hρ hd
        (go_simp; (try (first | exact wrap_in _ (by omega) (by omega) | exact HNT.out)))
      refine FSteps.cons (FStep.value (.agg #[.int .i64 X1, .int .i64 Y1]) (fun u w hd => wanted_on 46 79 true rfl rfl (congrArg some (hd.get 1 _ rfl rfl))) (fun _ _ => rfl) (fun _ => rfl) (fun u w hW hC (hd : After _ _ u w) ρ hρ => ?_)) ?_
      · have r80 : ρ (.tmp 80) = .pointer (some ⟨b8, 2, none⟩) := (by rw [hρ]; exact hd.get 0 _ rfl rfl); clear hρ hd
        (go_simp; (try (first | exact wrap_in _ (by omega) (by omega) | exact HNT.out)))
      refine FSteps.cons (FStep.value (.agg #[.slice A N c1]) (fun u w hd => wanted_on 46 79 true rfl rfl (congrArg some (hd.get 0 _ rfl rfl))) (fun _ _ => rfl) (fun _ => rfl) (fun u w hW hC (hd : After _ _ u w) ρ hρ => ?_)) ?_
      · have r3 : ρ (.tmp 3) = .pointer (some ⟨b3, 0, none⟩) := (by subst hρ; rfl); clear hρ hd
        (go_simp; (try (first | exact wrap_in _ (by omega) (by omega) | exact HNT.out)))
      refine FSteps.cons (FStep.value (.int .i64 ((k : Int))) (fun u w hd => wanted_on 46 79 true rfl rfl (congrArg some (hd.get 0 _ rfl rfl))) (fun _ _ => rfl) (fun _ => rfl) (fun u w hW hC (hd : After _ _ u w) ρ hρ => ?_)) ?_
      · have r5 : ρ (.tmp 5) = .int .i64 ((k : Int)) := (by subst hρ; rfl); clear hρ hd
        (go_simp; (try (first | exact wrap_in _ (by omega) (by omega) | exact HNT.out)))
      refine FSteps.cons (FStep.value (.int .i64 ((k : Int) + 1)) (fun u w hd => wanted_on 46 79 true rfl rfl (congrArg some (hd.get 1 _ rfl rfl))) (fun _ _ => rfl) (fun _ => rfl) (fun u w hW hC (hd : After _ _ u w) ρ hρ => ?_)) ?_
      · have r83 : ρ (.tmp 83) = .int .i64 ((k : Int)) := (by rw [hρ]; exact hd.get 0 _ rfl rfl); have rc : ∀ v, ρ (.const v) = v := (by subst hρ; exact fun _ => rfl); clear hρ hd
        (go_simp; (try (first | exact wrap_in _ (by omega) (by omega) | exact HNT.out)))
      refine FSteps.cons (FStep.callC (.agg #[.int .i64 X1, .int .i64 Y1]) _ #[.agg #[.slice A N c1], .int .i64 ((k : Int) + 1)] (fun u w hd => wanted_on 46 79 true rfl rfl (congrArg some (hd.get 2 _ rfl rfl))) (fun _ _ => rfl) (fun _ => rfl) (fun u w hW hC (hd : After _ _ u w) ρ hρ => ?_) (fun w hW => CornerAt_at A L c1 N _ _ _ w HLN.out (HR.out w (by (repeat (first | exact Ext.refl _ | assumption | apply Ext.alloc | apply Ext.drew | apply Ext.drewN | (refine Ext.trans ?_ (by assumption)))))) hn10 HC3.out.1 HC3.out.2)) ?_
      · have r82 : ρ (.tmp 82) = .agg #[.slice A N c1] := (by rw [hρ]; exact hd.get 0 _ rfl rfl); have r84 : ρ (.tmp 84) = .int .i64 ((k : Int) + 1) := (by rw [hρ]; exact hd.get 1 _ rfl rfl); have rf : ∀ f, ρ (.func f) = .func (.func f) #[] #[] := (by subst hρ; exact fun _ => rfl); clear hρ hd
        (go_simp; (try (first | exact wrap_in _ (by omega) (by omega) | exact HNT.out)))
      refine FSteps.cons (FStep.value (.bool true) (fun u w hd => wanted_on 46 79 true rfl rfl (congrArg some (hd.get 2 _ rfl rfl))) (fun _ _ => rfl) (fun _ => rfl) (fun u w hW hC (hd : After _ _ u w) ρ hρ => ?_)) ?_
      · have r81 : ρ (.tmp 81) = .agg #[.int .i64 X1, .int .i64 Y1] := (by rw [hρ]; exact hd.get 0 _ rfl rfl); have r85 : ρ (.tmp 85) = .agg #[.int .i64 X1, .int .i64 Y1] := (by rw [hρ]; exact hd.get 1 _ rfl rfl); clear hρ hd
        (go_simp; (try (first | exact wrap_in _ (by omega) (by omega) | exact HNT.out)))
      refine FSteps.cons (FStep.value (.bool true) (fun _ _ _ => wanted_none rfl) (fun _ _ => rfl) (fun _ => rfl) (fun u w hW hC (hd : After _ _ u w) ρ hρ => ?_)) ?_
      · have r79 : ρ (.tmp 79) = .bool true := (by rw [hρ]; exact hd.get 0 _ rfl rfl); have r86 : ρ (.tmp 86) = .bool true := (by rw [hρ]; exact hd.get 1 _ rfl rfl); have rc : ∀ v, ρ (.const v) = v := (by subst hρ; exact fun _ => rfl); clear hρ hd
        (go_simp; (try (first | exact wrap_in _ (by omega) (by omega) | exact HNT.out)))
      refine FSteps.cons (FStep.value (.bool true) (fun _ _ _ => wanted_none rfl) (fun _ _ => rfl) (fun _ => rfl) (fun u w hW hC (hd : After _ _ u w) ρ hρ => ?_)) ?_
      · have r87 : ρ (.tmp 87) = .bool true := (by rw [hρ]; exact hd.get 0 _ rfl rfl); clear hρ hd
        (go_simp; (try (first | exact wrap_in _ (by omega) (by omega) | exact HNT.out)))
      exact FSteps.nil
    case hV2 => (simp only [List.forall_mem_cons]; simp [stable_is])
    case fin2 =>
      intro u w2 hW2 hC2 hd
      have e55 : u 55 = .bool true := AllV.get _ 0 55 u w2 _ hd rfl
      clear hd
      refine then_normal ?_
      go_step
      refine wp_ret ?_
      refine bodyPost_ret (results_tmp rfl _ _ _) rfl ?_
      exact ⟨congrArg Ending.returned e55, (HE8.out.trans hW2).below⟩

end Go.Proofs.YtkdhgngpapfkdaaDoor
