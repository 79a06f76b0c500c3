/-
  Contracts: CornersSeen, SeenBy (the reference's).
-/
import Derived.Test.YtmccffmkfdcmmaaSeenP
import Derived.Test.YtmccffmkfdcmmaaSSees
import Derived.Test.YtmccffmkfdcmmaaSFloor
namespace Go.Proofs.Ytmccffmkfdcmmaa
open Go.RowKit


set_option maxRecDepth 100000 in
set_option maxHeartbeats 3200000 in
theorem sCornersSeen_any (A : Option Addr) (l : List (Int × Int)) (c : Nat) (ax ay : Int) (w : World) (hp : RPts w A l) (hn : l.length ≤ 1048576) :
    Calls Try.prog 31 #[.agg #[.slice A l.length c], .agg #[.int .i64 ax, .int .i64 ay]] w (RetI 3 (csV l ax ay) w) := by
  obtain ⟨i0, hI, hZ, hS, hY⟩ := info_parts info_int
  have HB : Hid (∀ w', Ext ((w.alloc (.cells #[.slice A l.length c] 29)).alloc (.cells #[.int .i64 ax, .int .i64 ay] 35)) w' → w'.cell? ⟨w.heap.size, 0, none⟩ = some (.slice A l.length c) ∧ w.heap.size < w'.heap.size ∧ w'.cell? ⟨w.heap.size + 1, 0, none⟩ = some (.int .i64 ax) ∧ w'.cell? ⟨w.heap.size + 1, 1, none⟩ = some (.int .i64 ay) ∧ w.heap.size + 1 < w'.heap.size) := fun w' hx => by
    and_intros <;> (first | (have hz := hx.size; simp at hz; omega) | ((first | rw [hx.cells _ _ (by first | (simp; done) | (simp; omega))] | rw [hx.frozens _ _ (by first | (simp; done) | (simp; omega))]); (first | (simp [go_sem]; done) | (simp [go_sem, World.cell?_alloc_past]; done) | (simp [go_sem, World.frozen?]; done))))
  cases hi : isInV l ax ay
  · have HV := hide (show csV l ax ay = [] by simp [csV, hi])
    have HI := hide hi
    clear hi
    go_enter Try.func31, Try.ntmps31
    go_wp2
    go_loopw [5, 6] (fun out i wr => i = .int .i64 0 ∧ Ext ((w.alloc (.cells #[.slice A l.length c] 29)).alloc (.cells #[.int .i64 ax, .int .i64 ay] 35)) wr ∧ out = .slice (some ⟨w.heap.size + 1 + 1, 0, none⟩) 0 0) (fun _ i _ => 0)
    case atStart => exact ⟨rfl, by (repeat (first | exact Ext.refl _ | assumption | apply Ext.alloc | apply Ext.drew | apply Ext.drewN | (refine Ext.trans ?_ (by assumption)))), rfl⟩
    case round =>
      obtain ⟨rfl, hbl, rfl⟩ := hrel
      have hcb := HB.out wr hbl
      by_cases h0 : 0 < l.length
      · have q2 : (0 : Int) < (l.length : Int) := by omega
        go_wp2_with (go_at_call 54; refine (sIsIn_at _ _ _ _ _ _ _ (hp.ext (by (repeat (first | exact Ext.refl _ | assumption | apply Ext.alloc | apply Ext.drew | apply Ext.drewN | (refine Ext.trans ?_ (by assumption)))))) hn HI.out).mono ?_; rintro e w1 ⟨rfl, hb1⟩)
        go_ret
        exact ⟨some ⟨w.heap.size + 1 + 1, 0, none⟩, 0, by rw [HV.out]; rfl, by rw [HV.out]; exact OwnI.nil, by (repeat (first | exact Ext.refl _ | assumption | apply Ext.alloc | apply Ext.drew | apply Ext.drewN | (refine Ext.trans ?_ (by assumption))))⟩
      · have q2 : ¬ (0 : Int) < (l.length : Int) := by omega
        go_wp2
        go_ret
        exact ⟨some ⟨w.heap.size + 1 + 1, 0, none⟩, 0, by rw [HV.out]; rfl, by rw [HV.out]; exact OwnI.nil, by (repeat (first | exact Ext.refl _ | assumption | apply Ext.alloc | apply Ext.drew | apply Ext.drewN | (refine Ext.trans ?_ (by assumption))))⟩
  · have HV := hide (show csV l ax ay = csL l ax ay l.length by simp [csV, hi])
    have HI := hide hi
    have HIA := hide (isIn_iff.1 hi)
    have HF := hide (roomB_fine HIA.out.2.1).1
    obtain ⟨b, off, rfl⟩ := hp.some_ (by have := (roomB_fine HIA.out.2.1).2; omega)
    clear hi
    go_enter Try.func31, Try.ntmps31
    go_wp2
    go_loopw [5, 6] (fun out i wr => ∃ (k : Nat) (o : Value), k ≤ l.length ∧ i = .int .i64 k ∧ o = out ∧ Ext ((w.alloc (.cells #[.slice (some ⟨b, off, none⟩) l.length c] 29)).alloc (.cells #[.int .i64 ax, .int .i64 ay] 35)) wr ∧ wr.ownsRow (w.heap.size + 1 + 1) 3 1 o (csL l ax ay k).length (ints (csL l ax ay k))) (fun _ i _ => l.length - (intOf i).toNat)
    case atStart => exact ⟨0, _, Nat.zero_le _, rfl, rfl, by (repeat (first | exact Ext.refl _ | assumption | apply Ext.alloc | apply Ext.drew | apply Ext.drewN | (refine Ext.trans ?_ (by assumption)))), rfl, .inr ⟨w.heap.size + 1 + 1, 0, #[], rfl, Nat.le_refl _, by simpa using heap_alloc_new ((w.alloc (.cells #[.slice (some ⟨b, off, none⟩) l.length c] 29)).alloc (.cells #[.int .i64 ax, .int .i64 ay] 35)) (.cells #[] 3), Nat.le_refl _, by unfold maxLen; omega, rfl, rfl⟩⟩
    case round =>
      obtain ⟨k, o, hk, rfl, ho, hbl, hown⟩ := hrel; subst ho
      obtain ⟨wq, rfl⟩ : ∃ wq : World, wq = wr := ⟨_, rfl⟩
      have hcb := HB.out wq hbl
      by_cases hlt : k < l.length
      · have hle := csL_le l ax ay k
        have q2 : (k : Int) < (l.length : Int) := by omega
        cases hbk : seesV l ax ay (gx l k) (gy l k)
        · have HS := hide (show csL l ax ay (k + 1) = csL l ax ay k by rw [csL_succ, hbk]; rfl)
          go_wp2_with (go_at_call 54; refine (sIsIn_at _ _ _ _ _ _ _ (hp.ext (by (repeat (first | exact Ext.refl _ | assumption | apply Ext.alloc | apply Ext.drew | apply Ext.drewN | (refine Ext.trans ?_ (by assumption)))))) hn HI.out).mono ?_; rintro e w0 ⟨rfl, hb0⟩; have hcb0 := HB.out w0 (by (repeat (first | exact Ext.refl _ | assumption | apply Ext.alloc | apply Ext.drew | apply Ext.drewN | (refine Ext.trans ?_ (by assumption))))))
          have hp0 := hp.ext (show Ext w w0 by (repeat (first | exact Ext.refl _ | assumption | apply Ext.alloc | apply Ext.drew | apply Ext.drewN | (refine Ext.trans ?_ (by assumption)))))
          refine wp_flow (by kernel_rfl) (by kernel_rfl) (fun u => ⟨#[_, _, _, _, _, _, _, _, _, _, _, _, _, _, _, _, _, _, _, _, u 0, u 1, u 2, u 3, u 4, u 5, u 6, u 7, u 8, _, _, _, _, _], _⟩) (fun i => List.getD [_, _, _, _, _, _, _, _, _] i undef) [is ?v1_0, is ?v1_1, is ?v1_2, is ?v1_3, is ?v1_4, is ?v1_5, is ?v1_6, is ?v1_7, is ?v1_8] (fun w' => w'.cell? ⟨w.heap.size, 0, none⟩ = some (.slice (some ⟨b, off, none⟩) l.length c) ∧ w.heap.size < w'.heap.size ∧ w'.cell? ⟨w.heap.size + 1, 0, none⟩ = some (.int .i64 ax) ∧ w'.cell? ⟨w.heap.size + 1, 1, none⟩ = some (.int .i64 ay) ∧ w.heap.size + 1 < w'.heap.size ∧ w'.cell? ⟨b, off + k * 2, none⟩ = some (.int .i64 (gx l (k))) ∧ w'.cell? ⟨b, off + k * 2 + 1, none⟩ = some (.int .i64 (gy l (k)))) _ rfl ?hC1 ?hs1 ?hV1 ?fin1
          case hC1 => exact fun w' hx => (by have hq : Ext _ w' := hx; have hf0 := HB.out w' (by (repeat (first | exact Ext.refl _ | assumption | apply Ext.alloc | apply Ext.drew | apply Ext.drewN | (refine Ext.trans ?_ (by assumption))))); and_intros <;> first | exact hf0 | exact hf0.1 | exact hf0.2.1 | exact hf0.2.2.1 | exact hf0.2.2.2.1 | exact hf0.2.2.2.2.1 | exact hf0.2.2.2.2.2.1 | exact hf0.2.2.2.2.2.2.1 | exact hf0.2.2.2.2.2.2.2.1 | exact hf0.2.2.2.2.2.2.2.2.1 | exact hf0.2.2.2.2.2.2.2.2.2.1 | exact hf0.2.2.2.2.2.2.2.2.2.2.1 | exact hf0.2.2.2.2.2.2.2.2.2.2.2.1 | exact hf0.2.2.2.2.2.2.2.2.2.2.2.2.1 | exact hf0.2.2.2.2.2.2.2.2.2.2.2.2.2.1 | exact hf0.2 | exact hf0.2.2 | exact hf0.2.2.2 | exact hf0.2.2.2.2 | exact hf0.2.2.2.2.2 | exact hf0.2.2.2.2.2.2 | exact hf0.2.2.2.2.2.2.2 | exact hf0.2.2.2.2.2.2.2.2 | exact hf0.2.2.2.2.2.2.2.2.2 | exact hf0.2.2.2.2.2.2.2.2.2.2 | exact hf0.2.2.2.2.2.2.2.2.2.2.2 | exact hf0.2.2.2.2.2.2.2.2.2.2.2.2 | exact hf0.2.2.2.2.2.2.2.2.2.2.2.2.2 | exact ((hp0.ext hq).cell hlt).2.1 | exact ((hp0.ext hq).cell hlt).2.2)
          case hs1 =>
            repeat' (first
              | exact FSteps.nil
              | refine FSteps.cons ?_ ?_
              | (refine FStep.off_ _ _ _ rfl rfl ?_ (fun _ => rfl) ?_; (focus (intro u w hd; simp [vOf, is, Region.binds] at hd; simp [hd])); (intro w'; exact rfl); done)
              | ((first
                  | refine FStep.plain rfl ?_
                  | (refine FStep.on_ _ _ _ rfl rfl ?_ ?_; (focus (intro u w hd; simp [vOf, is, Region.binds] at hd; simp [hd]))))
                 intro u w hW hC hd K hK
                 (try simp [vOf, is, Region.binds] at hd)
                 simp only [upd, Nat.reduceEqDiff, if_true, if_false] at hK
                 (try simp only [hd] at hK)
                 go_simp
                 (first
                   | (refine hK _ _ ?_ ?_; (first | exact rfl); (repeat (first | exact Ext.refl _ | assumption | apply Ext.alloc | apply Ext.drew | apply Ext.drewN | (refine Ext.trans ?_ (by assumption)))))
                   | (go_at_call 55; refine (sl08Sees_any _ _ _ _ _ _ _ _ (hp.ext (by (repeat (first | exact Ext.refl _ | assumption | apply Ext.alloc | apply Ext.drew | apply Ext.drewN | (refine Ext.trans ?_ (by assumption)))))) HIA.out.2.1 HIA.out.1 (HF.out.pok hlt)).mono ?_; rw [hbk]; rintro e w1 ⟨rfl, hb⟩; (try go_simp); refine hK _ _ ?_ ?_; (first | exact rfl); (repeat (first | exact Ext.refl _ | assumption | apply Ext.alloc | apply Ext.drew | apply Ext.drewN | (refine Ext.trans ?_ (by assumption))))))))
          case hV1 => (simp only [List.forall_mem_cons]; simp [stable_is])
          intro u w2 hW2 hC2 hd
          simp only [AllV, is] at hd
          simp only [hd]
          clear hd
          obtain ⟨w1, rfl⟩ : ∃ ws : World, ws = w2 := ⟨_, rfl⟩
          clear hC2 hcb hcb0
          go_wp2
          go_roundw
          case rel => exact ⟨k + 1, _, by omega, by go_num, rfl, by (repeat (first | exact Ext.refl _ | assumption | apply Ext.alloc | apply Ext.drew | apply Ext.drewN | (refine Ext.trans ?_ (by assumption)))), by rw [HS.out]; exact ownsRow_ext hown (by (repeat (first | exact Ext.refl _ | assumption | apply Ext.alloc | apply Ext.drew | apply Ext.drewN | (refine Ext.trans ?_ (by assumption)))))⟩
          case measure => simp [intOf]; omega
        · have HS := hide (show csL l ax ay (k + 1) = csL l ax ay k ++ [(k : Int)] by rw [csL_succ, hbk]; rfl)
          go_wp2_with (go_at_call 54; refine (sIsIn_at _ _ _ _ _ _ _ (hp.ext (by (repeat (first | exact Ext.refl _ | assumption | apply Ext.alloc | apply Ext.drew | apply Ext.drewN | (refine Ext.trans ?_ (by assumption)))))) hn HI.out).mono ?_; rintro e w0 ⟨rfl, hb0⟩; have hcb0 := HB.out w0 (by (repeat (first | exact Ext.refl _ | assumption | apply Ext.alloc | apply Ext.drew | apply Ext.drewN | (refine Ext.trans ?_ (by assumption))))))
          have hp0 := hp.ext (show Ext w w0 by (repeat (first | exact Ext.refl _ | assumption | apply Ext.alloc | apply Ext.drew | apply Ext.drewN | (refine Ext.trans ?_ (by assumption)))))
          refine wp_flow (by kernel_rfl) (by kernel_rfl) (fun u => ⟨#[_, _, _, _, _, _, _, _, _, _, _, _, _, _, _, _, _, _, _, _, u 0, u 1, u 2, u 3, u 4, u 5, u 6, u 7, u 8, _, _, _, _, _], _⟩) (fun i => List.getD [_, _, _, _, _, _, _, _, _] i undef) [is ?v2_0, is ?v2_1, is ?v2_2, is ?v2_3, is ?v2_4, is ?v2_5, is ?v2_6, is ?v2_7, is ?v2_8] (fun w' => w'.cell? ⟨w.heap.size, 0, none⟩ = some (.slice (some ⟨b, off, none⟩) l.length c) ∧ w.heap.size < w'.heap.size ∧ w'.cell? ⟨w.heap.size + 1, 0, none⟩ = some (.int .i64 ax) ∧ w'.cell? ⟨w.heap.size + 1, 1, none⟩ = some (.int .i64 ay) ∧ w.heap.size + 1 < w'.heap.size ∧ w'.cell? ⟨b, off + k * 2, none⟩ = some (.int .i64 (gx l (k))) ∧ w'.cell? ⟨b, off + k * 2 + 1, none⟩ = some (.int .i64 (gy l (k)))) _ rfl ?hC2 ?hs2 ?hV2 ?fin2
          case hC2 => exact fun w' hx => (by have hq : Ext _ w' := hx; have hf0 := HB.out w' (by (repeat (first | exact Ext.refl _ | assumption | apply Ext.alloc | apply Ext.drew | apply Ext.drewN | (refine Ext.trans ?_ (by assumption))))); and_intros <;> first | exact hf0 | exact hf0.1 | exact hf0.2.1 | exact hf0.2.2.1 | exact hf0.2.2.2.1 | exact hf0.2.2.2.2.1 | exact hf0.2.2.2.2.2.1 | exact hf0.2.2.2.2.2.2.1 | exact hf0.2.2.2.2.2.2.2.1 | exact hf0.2.2.2.2.2.2.2.2.1 | exact hf0.2.2.2.2.2.2.2.2.2.1 | exact hf0.2.2.2.2.2.2.2.2.2.2.1 | exact hf0.2.2.2.2.2.2.2.2.2.2.2.1 | exact hf0.2.2.2.2.2.2.2.2.2.2.2.2.1 | exact hf0.2.2.2.2.2.2.2.2.2.2.2.2.2.1 | exact hf0.2 | exact hf0.2.2 | exact hf0.2.2.2 | exact hf0.2.2.2.2 | exact hf0.2.2.2.2.2 | exact hf0.2.2.2.2.2.2 | exact hf0.2.2.2.2.2.2.2 | exact hf0.2.2.2.2.2.2.2.2 | exact hf0.2.2.2.2.2.2.2.2.2 | exact hf0.2.2.2.2.2.2.2.2.2.2 | exact hf0.2.2.2.2.2.2.2.2.2.2.2 | exact hf0.2.2.2.2.2.2.2.2.2.2.2.2 | exact hf0.2.2.2.2.2.2.2.2.2.2.2.2.2 | exact ((hp0.ext hq).cell hlt).2.1 | exact ((hp0.ext hq).cell hlt).2.2)
          case hs2 =>
            repeat' (first
              | exact FSteps.nil
              | refine FSteps.cons ?_ ?_
              | (refine FStep.off_ _ _ _ rfl rfl ?_ (fun _ => rfl) ?_; (focus (intro u w hd; simp [vOf, is, Region.binds] at hd; simp [hd])); (intro w'; exact rfl); done)
              | ((first
                  | refine FStep.plain rfl ?_
                  | (refine FStep.on_ _ _ _ rfl rfl ?_ ?_; (focus (intro u w hd; simp [vOf, is, Region.binds] at hd; simp [hd]))))
                 intro u w hW hC hd K hK
                 (try simp [vOf, is, Region.binds] at hd)
                 simp only [upd, Nat.reduceEqDiff, if_true, if_false] at hK
                 (try simp only [hd] at hK)
                 go_simp
                 (first
                   | (refine hK _ _ ?_ ?_; (first | exact rfl); (repeat (first | exact Ext.refl _ | assumption | apply Ext.alloc | apply Ext.drew | apply Ext.drewN | (refine Ext.trans ?_ (by assumption)))))
                   | (go_at_call 55; refine (sl08Sees_any _ _ _ _ _ _ _ _ (hp.ext (by (repeat (first | exact Ext.refl _ | assumption | apply Ext.alloc | apply Ext.drew | apply Ext.drewN | (refine Ext.trans ?_ (by assumption)))))) HIA.out.2.1 HIA.out.1 (HF.out.pok hlt)).mono ?_; rw [hbk]; rintro e w1 ⟨rfl, hb⟩; (try go_simp); refine hK _ _ ?_ ?_; (first | exact rfl); (repeat (first | exact Ext.refl _ | assumption | apply Ext.alloc | apply Ext.drew | apply Ext.drewN | (refine Ext.trans ?_ (by assumption))))))))
          case hV2 => (simp only [List.forall_mem_cons]; simp [stable_is])
          intro u w2 hW2 hC2 hd
          simp only [AllV, is] at hd
          simp only [hd]
          clear hd
          obtain ⟨w1, rfl⟩ : ∃ ws : World, ws = w2 := ⟨_, rfl⟩
          clear hC2 hcb hcb0
          have hE1 : Ext wq (w1.alloc (.cells #[.int .i64 (k : Int)] 3)) := by (repeat (first | exact Ext.refl _ | assumption | apply Ext.alloc | apply Ext.drew | apply Ext.drewN | (refine Ext.trans ?_ (by assumption))))
          have hsz1 := (show Ext ((w.alloc (.cells #[.slice (some ⟨b, off, none⟩) l.length c] 29)).alloc (.cells #[.int .i64 ax, .int .i64 ay] 35)) w1 by (repeat (first | exact Ext.refl _ | assumption | apply Ext.alloc | apply Ext.drew | apply Ext.drewN | (refine Ext.trans ?_ (by assumption))))).size
          simp at hsz1
          go_wp2_with (at_builtin; refine wpList_app _ rfl (.tmp 29) (.tmp 31) _ rfl (w.heap.size + 1 + 1) 3 i0 _ 1 8 Try.underlying46 hI hZ hS hY rfl (by omega) _ _ (ints (csL l ax ay k)) (by rfl) (ownsRow_ext hown hE1) ⟨w1.heap.size, 0, none⟩ 1 1 [.int .i64 (k : Int)] (by rfl) rfl (news_alloc w1 [.int .i64 (k : Int)] 3) (by simp [Value.oneCell']) (by unfold maxLen; omega) (by omega) (by simp; omega) ?_; intro v' w3 hown3 hg3 _)
          have hx3 : Ext ((w.alloc (.cells #[.slice (some ⟨b, off, none⟩) l.length c] 29)).alloc (.cells #[.int .i64 ax, .int .i64 ay] 35)) w3 := ext_grown (hbl.trans hE1) hg3 (fun q hq => by have := (hown.lt q hq).1; simpa using this)
          clear hown hg3
          go_wp2
          go_roundw
          case rel => exact ⟨k + 1, _, by omega, by go_num, rfl, hx3, by rw [HS.out, ints_append, List.length_append]; exact hown3⟩
          case measure => simp [intOf]; omega
      · have e : k = l.length := by omega
        have q2 : ¬ (k : Int) < (l.length : Int) := by omega
        have E := hide e
        clear e
        obtain ⟨A', c', rfl⟩ := ownsRow_slice hown
        go_wp2
        go_ret
        rw [E.out] at hown
        exact ⟨A', c', by rw [HV.out, E.out]; rfl, by rw [HV.out]; exact (OwnI.of_own hown).2.more (by omega) (Nat.le_refl _), by (repeat (first | exact Ext.refl _ | assumption | apply Ext.alloc | apply Ext.drew | apply Ext.drewN | (refine Ext.trans ?_ (by assumption))))⟩


set_option maxRecDepth 100000 in
set_option maxHeartbeats 3200000 in
theorem sSeenBy_any (A : Option Addr) (l : List (Int × Int)) (c : Nat) (ax ay : Int) (w : World) (hp : RPts w A l) (hn : l.length ≤ 1048576) :
    Calls Try.prog 35 #[.agg #[.slice A l.length c], .agg #[.int .i64 ax, .int .i64 ay]] w (RetP 35 (sbV l ax ay) w) := by
  obtain ⟨i0, hI, hZ, hS, hY⟩ := info_parts info_ipt
  have HB : Hid (∀ w', Ext ((w.alloc (.cells #[.slice A l.length c] 29)).alloc (.cells #[.int .i64 ax, .int .i64 ay] 35)) w' → w'.cell? ⟨w.heap.size, 0, none⟩ = some (.slice A l.length c) ∧ w.heap.size < w'.heap.size ∧ w'.cell? ⟨w.heap.size + 1, 0, none⟩ = some (.int .i64 ax) ∧ w'.cell? ⟨w.heap.size + 1, 1, none⟩ = some (.int .i64 ay) ∧ w.heap.size + 1 < w'.heap.size) := fun w' hx => by
    and_intros <;> (first | (have hz := hx.size; simp at hz; omega) | ((first | rw [hx.cells _ _ (by first | (simp; done) | (simp; omega))] | rw [hx.frozens _ _ (by first | (simp; done) | (simp; omega))]); (first | (simp [go_sem]; done) | (simp [go_sem, World.cell?_alloc_past]; done) | (simp [go_sem, World.frozen?]; done))))
  cases hi : isInV l ax ay
  · have HV := hide (show sbV l ax ay = [] by simp [sbV, hi])
    have HI := hide hi
    clear hi
    go_enter Try.func35, Try.ntmps35
    go_wp2_with (go_at_call 54; refine (sIsIn_at _ _ _ _ _ _ _ (hp.ext (by (repeat (first | exact Ext.refl _ | assumption | apply Ext.alloc | apply Ext.drew | apply Ext.drewN | (refine Ext.trans ?_ (by assumption)))))) hn HI.out).mono ?_; rintro e w1 ⟨rfl, hb1⟩)
    go_ret
    exact ⟨some ⟨w.heap.size + 1 + 1, 0, none⟩, 0, by rw [HV.out]; rfl, by rw [HV.out]; exact OwnS.nil, by (repeat (first | exact Ext.refl _ | assumption | apply Ext.alloc | apply Ext.drew | apply Ext.drewN | (refine Ext.trans ?_ (by assumption))))⟩
  · have HV := hide (show sbV l ax ay = sbL l (floorL l) ax ay (floorL l).length by simp [sbV, hi])
    have HI := hide hi
    have HIA := hide (isIn_iff.1 hi)
    have HFP := hide (floor_pok HIA.out.2.1)
    have HFV := hide (show floorV l = floorL l by unfold floorV; rw [HIA.out.2.1]; rfl)
    have hfl := floorL_le (roomB_fine HIA.out.2.1).1 (by have := (roomB_fine HIA.out.2.1).2; omega)
    clear hi
    go_enter Try.func35, Try.ntmps35
    go_wp2_with (first | (go_at_call 54; refine (sIsIn_at _ _ _ _ _ _ _ (hp.ext (by (repeat (first | exact Ext.refl _ | assumption | apply Ext.alloc | apply Ext.drew | apply Ext.drewN | (refine Ext.trans ?_ (by assumption)))))) hn HI.out).mono ?_; rintro e wa ⟨rfl, hb⟩; have hcc := HB.out wa (by (repeat (first | exact Ext.refl _ | assumption | apply Ext.alloc | apply Ext.drew | apply Ext.drewN | (refine Ext.trans ?_ (by assumption)))))) | (go_at_call 48; refine (sFloorPoints_any _ _ _ _ (hp.ext (by (repeat (first | exact Ext.refl _ | assumption | apply Ext.alloc | apply Ext.drew | apply Ext.drewN | (refine Ext.trans ?_ (by assumption)))))) hn).mono ?_; rw [HFV.out]; rintro e wf ⟨AF, cf, rfl, hof, hbf⟩))
    have hsaz := (show Ext (((w.alloc (.cells #[.slice A l.length c] 29)).alloc (.cells #[.int .i64 ax, .int .i64 ay] 35)).alloc (.cells #[] 35)) wa by (repeat (first | exact Ext.refl _ | assumption | apply Ext.alloc | apply Ext.drew | apply Ext.drewN | (refine Ext.trans ?_ (by assumption))))).size
    simp at hsaz
    have hxa : Ext (((w.alloc (.cells #[.slice A l.length c] 29)).alloc (.cells #[.int .i64 ax, .int .i64 ay] 35)).alloc (.cells #[] 35)) wf := by (repeat (first | exact Ext.refl _ | assumption | apply Ext.alloc | apply Ext.drew | apply Ext.drewN | (refine Ext.trans ?_ (by assumption))))
    have hrf : Pts wf (w.heap.size + 1 + 1 + 1) wf.heap.size AF (floorL l) := hof.pts.more hsaz (Nat.le_refl _)
    have hst : wf.ownsRow (w.heap.size + 1 + 1) 35 2 (.slice (some ⟨w.heap.size + 1 + 1, 0, none⟩) 0 0) 0 (flat (sbL l (floorL l) ax ay 0)) := ownsRow_ext (w := ((w.alloc (.cells #[.slice A l.length c] 29)).alloc (.cells #[.int .i64 ax, .int .i64 ay] 35)).alloc (.cells #[] 35)) ⟨rfl, .inr ⟨w.heap.size + 1 + 1, 0, #[], rfl, Nat.le_refl _, by simpa using heap_alloc_new ((w.alloc (.cells #[.slice A l.length c] 29)).alloc (.cells #[.int .i64 ax, .int .i64 ay] 35)) (.cells #[] 35), Nat.le_refl _, by unfold maxLen; omega, rfl, rfl⟩⟩ hxa
    have hxb : Ext ((w.alloc (.cells #[.slice A l.length c] 29)).alloc (.cells #[.int .i64 ax, .int .i64 ay] 35)) wf := (Ext.alloc (Ext.refl _) _).trans hxa
    clear hcc hof hbf hxa
    generalize floorL l = F at *
    go_loopw [5, 7] (fun out i wr => ∃ (k : Nat) (o : Value) (g : Nat), k ≤ F.length ∧ i = .int .i64 k ∧ o = out ∧ Ext ((w.alloc (.cells #[.slice A l.length c] 29)).alloc (.cells #[.int .i64 ax, .int .i64 ay] 35)) wr ∧ Pts wr (w.heap.size + 1 + 1 + 1) wf.heap.size AF F ∧ wf.heap.size ≤ wr.heap.size ∧ (o.ownBlock = some g ∧ (g < w.heap.size + 1 + 1 + 1 ∨ wf.heap.size ≤ g)) ∧ wr.ownsRow (w.heap.size + 1 + 1) 35 2 o (sbL l F ax ay k).length (flat (sbL l F ax ay k))) (fun _ i _ => F.length - (intOf i).toNat)
    case atStart => exact ⟨0, _, w.heap.size + 1 + 1, Nat.zero_le _, rfl, rfl, hxb, hrf, Nat.le_refl _, ⟨rfl, .inl (by omega)⟩, hst⟩
    case round =>
      obtain ⟨k, o, g, hk, rfl, ho, hbl, hpf, hszf, ⟨hog, hgr⟩, hown⟩ := hrel; subst ho
      obtain ⟨wq, rfl⟩ : ∃ wq : World, wq = wr := ⟨_, rfl⟩
      clear hxb
      have hcb := HB.out wq hbl
      by_cases hlt : k < F.length
      · have hle := sbL_le l F ax ay k
        have q2 : (k : Int) < (F.length : Int) := by omega
        have hpr : RPts wq AF F := hpf.r hszf
        obtain ⟨b, off, rfl⟩ := hpr.some_ (by omega)
        have HPK := hide (HFP.out _ (g_mem hlt))
        cases hbk : seesV l ax ay (gx F k) (gy F k)
        · have HS := hide (show sbL l F ax ay (k + 1) = sbL l F ax ay k by rw [sbL_succ _ _ _ _ hlt, hbk]; rfl)
          go_wp2
          refine wp_flow (by kernel_rfl) (by kernel_rfl) (fun u => ⟨#[_, _, _, _, _, _, _, _, _, _, _, _, _, _, _, _, _, _, _, _, _, _, u 0, u 1, u 2, u 3, u 4, u 5, u 6, u 7, _, _, _, _, _, _, _, _], _⟩) (fun i => List.getD [_, _, _, _, _, _, _, _] i undef) [is ?v3_0, is ?v3_1, is ?v3_2, is ?v3_3, is ?v3_4, is ?v3_5, is ?v3_6, is ?v3_7] (fun w' => w'.cell? ⟨w.heap.size, 0, none⟩ = some (.slice A l.length c) ∧ w.heap.size < w'.heap.size ∧ w'.cell? ⟨w.heap.size + 1, 0, none⟩ = some (.int .i64 ax) ∧ w'.cell? ⟨w.heap.size + 1, 1, none⟩ = some (.int .i64 ay) ∧ w.heap.size + 1 < w'.heap.size ∧ w'.cell? ⟨b, off + k * 2, none⟩ = some (.int .i64 (gx F (k))) ∧ w'.cell? ⟨b, off + k * 2 + 1, none⟩ = some (.int .i64 (gy F (k)))) _ rfl ?hC3 ?hs3 ?hV3 ?fin3
          case hC3 => exact fun w' hx => (by have hq : Ext _ w' := hx; have hf0 := HB.out w' (by (repeat (first | exact Ext.refl _ | assumption | apply Ext.alloc | apply Ext.drew | apply Ext.drewN | (refine Ext.trans ?_ (by assumption))))); and_intros <;> first | exact hf0 | exact hf0.1 | exact hf0.2.1 | exact hf0.2.2.1 | exact hf0.2.2.2.1 | exact hf0.2.2.2.2.1 | exact hf0.2.2.2.2.2.1 | exact hf0.2.2.2.2.2.2.1 | exact hf0.2.2.2.2.2.2.2.1 | exact hf0.2.2.2.2.2.2.2.2.1 | exact hf0.2.2.2.2.2.2.2.2.2.1 | exact hf0.2.2.2.2.2.2.2.2.2.2.1 | exact hf0.2.2.2.2.2.2.2.2.2.2.2.1 | exact hf0.2.2.2.2.2.2.2.2.2.2.2.2.1 | exact hf0.2.2.2.2.2.2.2.2.2.2.2.2.2.1 | exact hf0.2 | exact hf0.2.2 | exact hf0.2.2.2 | exact hf0.2.2.2.2 | exact hf0.2.2.2.2.2 | exact hf0.2.2.2.2.2.2 | exact hf0.2.2.2.2.2.2.2 | exact hf0.2.2.2.2.2.2.2.2 | exact hf0.2.2.2.2.2.2.2.2.2 | exact hf0.2.2.2.2.2.2.2.2.2.2 | exact hf0.2.2.2.2.2.2.2.2.2.2.2 | exact hf0.2.2.2.2.2.2.2.2.2.2.2.2 | exact hf0.2.2.2.2.2.2.2.2.2.2.2.2.2 | exact ((hpr.ext hq).cell hlt).2.1 | exact ((hpr.ext hq).cell hlt).2.2)
          case hs3 =>
            repeat' (first
              | exact FSteps.nil
              | refine FSteps.cons ?_ ?_
              | (refine FStep.off_ _ _ _ rfl rfl ?_ (fun _ => rfl) ?_; (focus (intro u w hd; simp [vOf, is, Region.binds] at hd; simp [hd])); (intro w'; exact rfl); done)
              | ((first
                  | refine FStep.plain rfl ?_
                  | (refine FStep.on_ _ _ _ rfl rfl ?_ ?_; (focus (intro u w hd; simp [vOf, is, Region.binds] at hd; simp [hd]))))
                 intro u w hW hC hd K hK
                 (try simp [vOf, is, Region.binds] at hd)
                 simp only [upd, Nat.reduceEqDiff, if_true, if_false] at hK
                 (try simp only [hd] at hK)
                 go_simp
                 (first
                   | (refine hK _ _ ?_ ?_; (first | exact rfl); (repeat (first | exact Ext.refl _ | assumption | apply Ext.alloc | apply Ext.drew | apply Ext.drewN | (refine Ext.trans ?_ (by assumption)))))
                   | (go_at_call 55; refine (sl08Sees_any _ _ _ _ _ _ _ _ (hp.ext (by (repeat (first | exact Ext.refl _ | assumption | apply Ext.alloc | apply Ext.drew | apply Ext.drewN | (refine Ext.trans ?_ (by assumption)))))) HIA.out.2.1 HIA.out.1 HPK.out).mono ?_; rw [hbk]; rintro e w1 ⟨rfl, hb⟩; (try go_simp); refine hK _ _ ?_ ?_; (first | exact rfl); (repeat (first | exact Ext.refl _ | assumption | apply Ext.alloc | apply Ext.drew | apply Ext.drewN | (refine Ext.trans ?_ (by assumption))))))))
          case hV3 => (simp only [List.forall_mem_cons]; simp [stable_is])
          intro u w2 hW2 hC2 hd
          simp only [AllV, is] at hd
          simp only [hd]
          clear hd
          obtain ⟨w1, rfl⟩ : ∃ ws : World, ws = w2 := ⟨_, rfl⟩
          clear hC2 hcb
          have hx1 : Ext wq w1 := by (repeat (first | exact Ext.refl _ | assumption | apply Ext.alloc | apply Ext.drew | apply Ext.drewN | (refine Ext.trans ?_ (by assumption))))
          go_wp2
          go_roundw
          case rel => exact ⟨k + 1, _, g, by omega, by go_num, rfl, hbl.trans hx1, hpf.ext hx1 hszf, Nat.le_trans hszf hx1.size, ⟨hog, hgr⟩, by rw [HS.out]; exact ownsRow_ext hown hx1⟩
          case measure => simp [intOf]; omega
        · have HS := hide (show sbL l F ax ay (k + 1) = sbL l F ax ay k ++ [(gx F k, gy F k)] by rw [sbL_succ _ _ _ _ hlt, hbk]; rfl)
          go_wp2
          refine wp_flow (by kernel_rfl) (by kernel_rfl) (fun u => ⟨#[_, _, _, _, _, _, _, _, _, _, _, _, _, _, _, _, _, _, _, _, _, _, u 0, u 1, u 2, u 3, u 4, u 5, u 6, u 7, _, _, _, _, _, _, _, _], _⟩) (fun i => List.getD [_, _, _, _, _, _, _, _] i undef) [is ?v4_0, is ?v4_1, is ?v4_2, is ?v4_3, is ?v4_4, is ?v4_5, is ?v4_6, is ?v4_7] (fun w' => w'.cell? ⟨w.heap.size, 0, none⟩ = some (.slice A l.length c) ∧ w.heap.size < w'.heap.size ∧ w'.cell? ⟨w.heap.size + 1, 0, none⟩ = some (.int .i64 ax) ∧ w'.cell? ⟨w.heap.size + 1, 1, none⟩ = some (.int .i64 ay) ∧ w.heap.size + 1 < w'.heap.size ∧ w'.cell? ⟨b, off + k * 2, none⟩ = some (.int .i64 (gx F (k))) ∧ w'.cell? ⟨b, off + k * 2 + 1, none⟩ = some (.int .i64 (gy F (k)))) _ rfl ?hC4 ?hs4 ?hV4 ?fin4
          case hC4 => exact fun w' hx => (by have hq : Ext _ w' := hx; have hf0 := HB.out w' (by (repeat (first | exact Ext.refl _ | assumption | apply Ext.alloc | apply Ext.drew | apply Ext.drewN | (refine Ext.trans ?_ (by assumption))))); and_intros <;> first | exact hf0 | exact hf0.1 | exact hf0.2.1 | exact hf0.2.2.1 | exact hf0.2.2.2.1 | exact hf0.2.2.2.2.1 | exact hf0.2.2.2.2.2.1 | exact hf0.2.2.2.2.2.2.1 | exact hf0.2.2.2.2.2.2.2.1 | exact hf0.2.2.2.2.2.2.2.2.1 | exact hf0.2.2.2.2.2.2.2.2.2.1 | exact hf0.2.2.2.2.2.2.2.2.2.2.1 | exact hf0.2.2.2.2.2.2.2.2.2.2.2.1 | exact hf0.2.2.2.2.2.2.2.2.2.2.2.2.1 | exact hf0.2.2.2.2.2.2.2.2.2.2.2.2.2.1 | exact hf0.2 | exact hf0.2.2 | exact hf0.2.2.2 | exact hf0.2.2.2.2 | exact hf0.2.2.2.2.2 | exact hf0.2.2.2.2.2.2 | exact hf0.2.2.2.2.2.2.2 | exact hf0.2.2.2.2.2.2.2.2 | exact hf0.2.2.2.2.2.2.2.2.2 | exact hf0.2.2.2.2.2.2.2.2.2.2 | exact hf0.2.2.2.2.2.2.2.2.2.2.2 | exact hf0.2.2.2.2.2.2.2.2.2.2.2.2 | exact hf0.2.2.2.2.2.2.2.2.2.2.2.2.2 | exact ((hpr.ext hq).cell hlt).2.1 | exact ((hpr.ext hq).cell hlt).2.2)
          case hs4 =>
            repeat' (first
              | exact FSteps.nil
              | refine FSteps.cons ?_ ?_
              | (refine FStep.off_ _ _ _ rfl rfl ?_ (fun _ => rfl) ?_; (focus (intro u w hd; simp [vOf, is, Region.binds] at hd; simp [hd])); (intro w'; exact rfl); done)
              | ((first
                  | refine FStep.plain rfl ?_
                  | (refine FStep.on_ _ _ _ rfl rfl ?_ ?_; (focus (intro u w hd; simp [vOf, is, Region.binds] at hd; simp [hd]))))
                 intro u w hW hC hd K hK
                 (try simp [vOf, is, Region.binds] at hd)
                 simp only [upd, Nat.reduceEqDiff, if_true, if_false] at hK
                 (try simp only [hd] at hK)
                 go_simp
                 (first
                   | (refine hK _ _ ?_ ?_; (first | exact rfl); (repeat (first | exact Ext.refl _ | assumption | apply Ext.alloc | apply Ext.drew | apply Ext.drewN | (refine Ext.trans ?_ (by assumption)))))
                   | (go_at_call 55; refine (sl08Sees_any _ _ _ _ _ _ _ _ (hp.ext (by (repeat (first | exact Ext.refl _ | assumption | apply Ext.alloc | apply Ext.drew | apply Ext.drewN | (refine Ext.trans ?_ (by assumption)))))) HIA.out.2.1 HIA.out.1 HPK.out).mono ?_; rw [hbk]; rintro e w1 ⟨rfl, hb⟩; (try go_simp); refine hK _ _ ?_ ?_; (first | exact rfl); (repeat (first | exact Ext.refl _ | assumption | apply Ext.alloc | apply Ext.drew | apply Ext.drewN | (refine Ext.trans ?_ (by assumption))))))))
          case hV4 => (simp only [List.forall_mem_cons]; simp [stable_is])
          intro u w2 hW2 hC2 hd
          simp only [AllV, is] at hd
          simp only [hd]
          clear hd
          obtain ⟨w1, rfl⟩ : ∃ ws : World, ws = w2 := ⟨_, rfl⟩
          clear hC2 hcb
          have hx1 : Ext wq w1 := by (repeat (first | exact Ext.refl _ | assumption | apply Ext.alloc | apply Ext.drew | apply Ext.drewN | (refine Ext.trans ?_ (by assumption))))
          have hE1 : Ext wq (w1.alloc (.cells #[.int .i64 (gx F k), .int .i64 (gy F k)] 35)) := by (repeat (first | exact Ext.refl _ | assumption | apply Ext.alloc | apply Ext.drew | apply Ext.drewN | (refine Ext.trans ?_ (by assumption))))
          obtain ⟨hz, hx, hy⟩ := (hpr.ext hx1).cell hlt
          have hsz1 := (hbl.trans hx1).size
          simp at hsz1
          go_wp2_with (at_builtin; refine wpList_app _ rfl (.tmp 30) (.tmp 35) _ rfl (w.heap.size + 1 + 1) 35 i0 _ 2 16 Try.underlying27 hI hZ hS hY rfl (by omega) _ _ (flat (sbL l F ax ay k)) (by rfl) (ownsRow_ext hown hE1) ⟨w1.heap.size, 0, none⟩ 1 1 [.int .i64 (gx F k), .int .i64 (gy F k)] (by rfl) rfl (news_alloc w1 [.int .i64 (gx F k), .int .i64 (gy F k)] 35) (by simp [Value.oneCell']) (by unfold maxLen; omega) (by omega) (by simp; omega) ?_; intro v' w3 hown3 hg3 hk3)
          have hx3 : Ext ((w.alloc (.cells #[.slice A l.length c] 29)).alloc (.cells #[.int .i64 ax, .int .i64 ay] 35)) w3 := ext_grown (hbl.trans hE1) hg3 (fun q hq => by have := (hown.lt q hq).1; simpa using this)
          have hsE := hE1.size
          have hs3 := hg3.size
          rw [hog] at hg3 hk3
          have hpf3 := (hpf.ext hE1 hszf).grown hg3 (by omega) (Nat.le_trans hszf hsE)
          have hog3 : ∃ g', v'.ownBlock = some g' ∧ (g' < w.heap.size + 1 + 1 + 1 ∨ wf.heap.size ≤ g') := by
            rcases hk3 with h | h
            · exact ⟨g, h, hgr⟩
            · exact ⟨_, h, .inr (Nat.le_trans hszf hsE)⟩
          obtain ⟨g', hog', hgr'⟩ := hog3
          clear hown hg3 hk3 hpr hx hy
          go_wp2
          go_roundw
          case rel => exact ⟨k + 1, _, g', by omega, by go_num, rfl, hx3, hpf3, by omega, ⟨hog', hgr'⟩, by rw [HS.out, flat_snoc, List.length_append]; exact hown3⟩
          case measure => simp [intOf]; omega
      · have e : k = F.length := by omega
        have q2 : ¬ (k : Int) < (F.length : Int) := by omega
        have E := hide e
        clear e
        obtain ⟨A', c', rfl⟩ := ownsRow_slice hown
        go_wp2
        go_ret
        rw [E.out] at hown
        exact ⟨A', c', by rw [HV.out, E.out]; rfl, by rw [HV.out]; exact (OwnS.of_own hown).2.more (by omega) (Nat.le_refl _), by (repeat (first | exact Ext.refl _ | assumption | apply Ext.alloc | apply Ext.drew | apply Ext.drewN | (refine Ext.trans ?_ (by assumption))))⟩

end Go.Proofs.Ytmccffmkfdcmmaa
