/-
  Contracts: the corners from one to another one (the program's stretch, the reference's l09Part).
-/
import Derived.Test.YtmccffmkfdcmmaaSStart
namespace Go.Proofs.Ytmccffmkfdcmmaa
open Go.RowKit

/-- how far corner k is behind corner i -/
def gap (n i k : Nat) : Nat := if i ≤ k then k - i else k + n - i
theorem gap_lt {n i k : Nat} (hi : i < n) (hk : k < n) : gap n i k < n := by
  unfold gap
  split <;> omega
theorem mod_two {a n : Nat} (h : a < 2 * n) : a % n = if a < n then a else a - n := by
  split
  · rename_i h1; exact Nat.mod_eq_of_lt h1
  · rename_i h1
    rw [Nat.mod_eq_sub_mod (by omega), Nat.mod_eq_of_lt (by omega)]
theorem gap_end {n i k : Nat} (hi : i < n) (hk : k < n) : (i + gap n i k) % n = k := by
  have h := gap_lt hi hk
  rw [mod_two (by omega)]
  unfold gap at *
  by_cases e : i ≤ k
  · rw [if_pos e, if_pos (by omega)]; omega
  · rw [if_neg e, if_neg (by omega)]; omega
theorem gap_at {n i j : Nat} (hi : i < n) (hj : j < n) : gap n i ((i + j) % n) = j := by
  rw [mod_two (by omega)]
  unfold gap
  by_cases e : i + j < n
  · rw [if_pos e, if_pos (by omega)]; omega
  · rw [if_neg e, if_neg (by omega)]; omega
theorem gap_ne {n i k j : Nat} (hi : i < n) (hk : k < n) (hj : j < gap n i k) : (i + j) % n ≠ k := by
  have h := gap_lt hi hk
  rw [mod_two (by omega)]
  unfold gap at *
  split <;> split at hj <;> omega
theorem mod_step (n i j : Nat) : ((i + j) % n + 1) % n = (i + (j + 1)) % n := by
  rw [Nat.mod_add_mod, Nat.add_assoc]
/-- the corners from i to k -/
def stL (l : List (Int × Int)) (i k : Nat) : List (Int × Int) := rotL l i (gap l.length i k + 1)
theorem stL_length (l : List (Int × Int)) (i k : Nat) : (stL l i k).length = gap l.length i k + 1 := rotL_length _ _ _


set_option maxRecDepth 100000 in
set_option maxHeartbeats 3200000 in
theorem stretch_any (A : Option Addr) (l : List (Int × Int)) (c i k : Nat) (w : World) (hp : RPts w A l) (hn : l.length ≤ 1048576) (hi : i < l.length) (hk : k < l.length) :
    Calls Try.prog 66 #[.agg #[.slice A l.length c], .int .i64 i, .int .i64 k] w (RetR 35 (stL l i k) w) := by
  obtain ⟨b, off, rfl⟩ := hp.some_ (by omega)
  obtain ⟨i0, hI, hZ, hS, hY⟩ := info_parts info_ipt
  obtain ⟨d, hd⟩ : ∃ d, d = gap l.length i k := ⟨_, rfl⟩
  have hdl : d < l.length := by rw [hd]; exact gap_lt hi hk
  have HEND := hide (show (i + d) % l.length = k by rw [hd]; exact gap_end hi hk)
  have HNE := hide (show ∀ j, j < d → (i + j) % l.length ≠ k from fun j hj => gap_ne hi hk (by omega))
  have HV := hide (show stL l i k = rotL l i (d + 1) by rw [hd]; rfl)
  have HI3 := hide (show ((l.length : Int) == 0) = false by simp only [beq_eq_false_iff_ne]; omega)
  clear hd
  have HB : Hid (∀ w', Ext ((w.alloc (.cells #[.slice (some ⟨b, off, none⟩) l.length c] 29)).alloc (.cells #[.slice none 0 0] 29)) w' → w'.cell? ⟨w.heap.size, 0, none⟩ = some (.slice (some ⟨b, off, none⟩) l.length c) ∧ w.heap.size < w'.heap.size ∧ w'.cell? ⟨w.heap.size + 1, 0, none⟩ = some (.slice none 0 0) ∧ w'.frozen? ⟨w.heap.size + 1, 0, none⟩ = false ∧ w.heap.size + 1 < w'.heap.size) := fun w' hx => by
    and_intros <;> (first | (have hz := hx.size; simp at hz; omega) | ((first | rw [hx.cells _ _ (by first | (simp; done) | (simp; omega))] | rw [hx.frozens _ _ (by first | (simp; done) | (simp; omega))]); (first | (simp [go_sem]; done) | (simp [go_sem, World.cell?_alloc_past]; done) | (simp [go_sem, World.frozen?]; done))))
  go_enter Try.func66, Try.ntmps66
  go_wp2
  go_loopw [1] (fun iv wr => ∃ (j : Nat) (v : Value), j ≤ d ∧ iv = .int .i64 (((i + j) % l.length : Nat) : Int) ∧ Ext ((w.alloc (.cells #[.slice (some ⟨b, off, none⟩) l.length c] 29)).alloc (.cells #[.slice none 0 0] 29)) wr ∧ OneC wr (w.heap.size + 1 + 1) 29 v ∧ wr.ownsRow (w.heap.size + 1 + 1 + 1) 35 2 v j (flat (rotL l i j))) (fun iv _ => d - gap l.length i (intOf iv).toNat)
  case atStart => exact ⟨0, .slice none 0 0, Nat.zero_le _, by rw [Nat.add_zero, Nat.mod_eq_of_lt hi], by (repeat (first | exact Ext.refl _ | assumption | apply Ext.alloc | apply Ext.drew | apply Ext.drewN | (refine Ext.trans ?_ (by assumption)))), by have h := OneC.new ((w.alloc (.cells #[.slice (some ⟨b, off, none⟩) l.length c] 29)).alloc (.cells #[.slice none 0 0] 29)) 29 (.slice none 0 0); simpa using h, ⟨rfl, .inl ⟨rfl, rfl⟩⟩⟩
  case round =>
    obtain ⟨j, v, hj, rfl, hbl, hone, hown⟩ := hrel
    obtain ⟨wq, rfl⟩ : ∃ wq : World, wq = wr := ⟨_, rfl⟩
    have hcb := HB.out wq hbl
    obtain ⟨mm, hmm⟩ : ∃ q : Nat, q = (i + j) % l.length := ⟨_, rfl⟩
    have hml : mm < l.length := by rw [hmm]; exact Nat.mod_lt _ (by omega)
    by_cases hlt : j < d
    · have hne := HNE.out j hlt
      rw [← hmm] at hne
      have hne2 : ((mm : Int) != (k : Int)) = true := by simp only [bne_iff_ne, ne_eq]; omega
      have hpl : gx l mm = (l.getD mm (0, 0)).1 ∧ gy l mm = (l.getD mm (0, 0)).2 := ⟨rfl, rfl⟩
      have HRS := hide (show flat (rotL l i (j + 1)) = flat (rotL l i j) ++ [.int .i64 (gx l mm), .int .i64 (gy l mm)] by rw [rotL_succ, flat_append, ← hmm]; rfl)
      have hst : (mm + 1) % l.length = (i + (j + 1)) % l.length := by rw [hmm]; exact mod_step _ _ _
      have HST := hide hst
      rw [← hmm]
      have HMM := hide hmm
      clear hmm hpl hst
      obtain ⟨q1, q2, q3, q4, q5⟩ := idx_facts ((mm : Int) + 1) (mm + 1) l.length (by omega) (by omega) (by omega)
      have q7 : ((mm : Int) + 1) % (l.length : Int) = (((i + (j + 1)) % l.length : Nat) : Int) := by rw [← HST.out, Int.natCast_emod]; rfl
      obtain ⟨o1, o2, o3⟩ := hone.cell
      have j1 : (0 : Int) ≤ (mm : Int) := by omega
      have j2 : (mm : Int) < (l.length : Int) := by omega
      have j3 := HI3.out
      have j5 : ¬ l.length = 0 := by omega
      go_wp2
      refine wp_flow_tail 8 (by kernel_rfl) (by kernel_rfl) (by kernel_rfl) (by kernel_rfl) (fun u => ⟨#[_, _, _, _, _, _, _, _, _, _, _, _, _, _, _, _, _, _, u 0, u 1, u 2, u 3, u 4, u 5, u 6, u 7, _, _, _, _, _, _, _, _, _, _, _, _, _], _⟩) (fun i => List.getD [_, _, _, _, _, _, _, _] i undef) [is ?v1_0, is ?v1_1, is ?v1_2, is ?v1_3, is ?v1_4, is ?v1_5, is ?v1_6, (SLn wq.heap.size [.int .i64 (gx l mm), .int .i64 (gy l mm)] 1)] (fun w' => wq.heap.size ≤ w'.heap.size ∧ w'.cell? ⟨w.heap.size, 0, none⟩ = some (.slice (some ⟨b, off, none⟩) l.length c) ∧ w.heap.size < w'.heap.size ∧ w'.cell? ⟨w.heap.size + 1, 0, none⟩ = some (.slice none 0 0) ∧ w'.frozen? ⟨w.heap.size + 1, 0, none⟩ = false ∧ w.heap.size + 1 < w'.heap.size ∧ w'.cell? ⟨w.heap.size + 1 + 1, 0, none⟩ = some v ∧ w'.cell? ⟨b, off + mm * 2, none⟩ = some (.int .i64 (gx l (mm))) ∧ w'.cell? ⟨b, off + mm * 2 + 1, none⟩ = some (.int .i64 (gy l (mm)))) _ rfl ?hC1 ?hs1 ?hV1 ?fin1
      case hC1 => exact fun w' hq => by have h := HB.out w' (by (repeat (first | exact Ext.refl _ | assumption | apply Ext.alloc | apply Ext.drew | apply Ext.drewN | (refine Ext.trans ?_ (by assumption))))); have h2 := ((hp.ext (show Ext w w' by (repeat (first | exact Ext.refl _ | assumption | apply Ext.alloc | apply Ext.drew | apply Ext.drewN | (refine Ext.trans ?_ (by assumption)))))).cell hml).2; have h3 := (hone.ext hq).cell; have h4 : wq.heap.size ≤ w'.heap.size := (show Ext wq w' from hq).size; simp only [h, h2, h3, h4, and_self]
      case hs1 =>
        repeat' (first
          | exact FSteps.nil
          | refine FSteps.cons ?_ ?_
          | (refine FStep.off_ _ _ _ rfl rfl ?_ (fun _ => rfl) ?_; (focus (intro u w hd; simp [vOf, is, Region.binds] at hd; simp [hd])); (intro w'; exact rfl); done)
          | ((first
              | refine FStep.plain rfl ?_
              | (refine FStep.on_ _ _ _ rfl rfl ?_ ?_; (focus (intro u w hd; simp [vOf, is, Region.binds] at hd; simp [hd]))))
             intro u w hW hC hd K hK
             (try simp [vOf, is, Region.binds] at hd)
             simp only [upd, Nat.reduceEqDiff, if_true, if_false] at hK
             (try simp only [hd] at hK)
             go_simp
             (first
               | (refine hK _ _ ?_ ?_; (first | exact rfl | exact SLn_new _ _ hC.1); (repeat (first | exact Ext.refl _ | assumption | apply Ext.alloc | apply Ext.drew | apply Ext.drewN | (refine Ext.trans ?_ (by assumption))))))))
      case hV1 => (simp only [List.forall_mem_cons]; simp [stable_is, SLn_stable])
      case fin1 =>
        intro u w2 hW2 hC2 hd
        simp only [AllV, is] at hd
        have hs7 := hd.2.2.2.2.2.2.2.1
        simp only [List.drop_succ_cons, List.drop_zero]
        simp only [hd]
        clear hd
        obtain ⟨b1, hu, hb1, hb1', hcells⟩ := hs7
        have hown2 := ownsRow_ext hown (show Ext wq w2 by (repeat (first | exact Ext.refl _ | assumption | apply Ext.alloc | apply Ext.drew | apply Ext.drewN | (refine Ext.trans ?_ (by assumption)))))
        have h12 := hone.ext (show Ext wq w2 by (repeat (first | exact Ext.refl _ | assumption | apply Ext.alloc | apply Ext.drew | apply Ext.drewN | (refine Ext.trans ?_ (by assumption)))))
        simp only [hu]
        have hsz2 := (show Ext ((w.alloc (.cells #[.slice (some ⟨b, off, none⟩) l.length c] 29)).alloc (.cells #[.slice none 0 0] 29)) w2 by (repeat (first | exact Ext.refl _ | assumption | apply Ext.alloc | apply Ext.drew | apply Ext.drewN | (refine Ext.trans ?_ (by assumption))))).size
        simp at hsz2
        refine wpList_app _ rfl (.tmp 19) (.tmp 25) _ rfl (w.heap.size + 1 + 1 + 1) 35 i0 _ 2 16 Try.underlying27 hI hZ hS hY rfl (by omega) v j _ rfl hown2 ⟨b1, 0, none⟩ 1 1 _ rfl rfl (SLn.addr hcells) (by simp [Value.oneCell']) (by unfold maxLen; omega) (by omega) (by have := h12.cell.1; omega) ?_
        intro v' w3 hown3 hg3 _
        have hr3 : ∀ q, v.ownBlock = some q → w.heap.size + 1 + 1 + 1 ≤ q := fun q hq => (hown2.lt q hq).1
        have hx3 : Ext ((w.alloc (.cells #[.slice (some ⟨b, off, none⟩) l.length c] 29)).alloc (.cells #[.slice none 0 0] 29)) w3 := ext_grown (show Ext ((w.alloc (.cells #[.slice (some ⟨b, off, none⟩) l.length c] 29)).alloc (.cells #[.slice none 0 0] 29)) w2 by (repeat (first | exact Ext.refl _ | assumption | apply Ext.alloc | apply Ext.drew | apply Ext.drewN | (refine Ext.trans ?_ (by assumption))))) hg3 (fun q hq => by have := hr3 q hq; simp; omega)
        obtain ⟨A3, c3, rfl⟩ := ownsRow_slice hown3
        have h13 := h12.grown hg3 (fun e => by have := hr3 _ e; omega)
        obtain ⟨u1, u2, u3⟩ := h13.cell
        have hset := h13.set (.slice A3 (j + 1) c3)
        have hownS := ownsRow_set hown3 (p := ⟨w.heap.size + 1 + 1, 0, none⟩) (by show w.heap.size + 1 + 1 < _; omega) (.slice A3 (j + 1) c3)
        have hxs : Ext ((w.alloc (.cells #[.slice (some ⟨b, off, none⟩) l.length c] 29)).alloc (.cells #[.slice none 0 0] 29)) (w3.setCell ⟨w.heap.size + 1 + 1, 0, none⟩ (.slice A3 (j + 1) c3)) := hx3.setCell (by simp) _
        have HSET := hide hset
        have HOWN := hide hownS
        have HBS := HB.out _ hxs
        clear hset hownS hC2 hcells hown hown2 hg3 hown3 h12 h13 hr3
        go_wp2
        go_roundw
        case rel => exact ⟨j + 1, _, by omega, by first | rfl | (go_num; done) | (simp [*]; done), hxs, HSET.out, by rw [HRS.out]; exact HOWN.out⟩
        case measure =>
          have g1 := gap_at (j := j) hi (by omega)
          have g2 := gap_at (j := j + 1) hi (by omega)
          rw [← HMM.out] at g1
          have g3 : ((i : Int) + ((j : Int) + 1)) % (l.length : Int) = (((i + (j + 1)) % l.length : Nat) : Int) := by rw [Int.natCast_emod]; rfl
          simp only [g3, intOf, Int.toNat_natCast, g1, g2]
          omega
    · have e : j = d := by omega
      have hmk : mm = k := by rw [hmm, e]; exact HEND.out
      have HRS := hide (show flat (rotL l i (j + 1)) = flat (rotL l i j) ++ [.int .i64 (gx l k), .int .i64 (gy l k)] by rw [rotL_succ, flat_append, ← hmm, hmk]; rfl)
      have HV2 := hide (show stL l i k = rotL l i (j + 1) by rw [HV.out, e])
      rw [← hmm, hmk]
      have hne2 : ((k : Int) != (k : Int)) = false := by simp
      clear hmm hmk e hlt
      obtain ⟨o1, o2, o3⟩ := hone.cell
      have j1 : (0 : Int) ≤ (k : Int) := by omega
      have j2 : (k : Int) < (l.length : Int) := by omega
      have j3 := HI3.out
      have j5 : ¬ l.length = 0 := by omega
      go_wp2
      refine wp_flow_tail 8 (by kernel_rfl) (by kernel_rfl) (by kernel_rfl) (by kernel_rfl) (fun u => ⟨#[_, _, _, _, _, _, _, _, _, _, _, _, _, _, _, _, _, _, _, _, _, _, _, _, _, _, _, _, u 0, u 1, u 2, u 3, u 4, u 5, u 6, u 7, _, _, _], _⟩) (fun i => List.getD [_, _, _, _, _, _, _, _] i undef) [is ?v2_0, is ?v2_1, is ?v2_2, is ?v2_3, is ?v2_4, is ?v2_5, is ?v2_6, (SLn wq.heap.size [.int .i64 (gx l k), .int .i64 (gy l k)] 1)] (fun w' => wq.heap.size ≤ w'.heap.size ∧ w'.cell? ⟨w.heap.size, 0, none⟩ = some (.slice (some ⟨b, off, none⟩) l.length c) ∧ w.heap.size < w'.heap.size ∧ w'.cell? ⟨w.heap.size + 1, 0, none⟩ = some (.slice none 0 0) ∧ w'.frozen? ⟨w.heap.size + 1, 0, none⟩ = false ∧ w.heap.size + 1 < w'.heap.size ∧ w'.cell? ⟨w.heap.size + 1 + 1, 0, none⟩ = some v ∧ w'.cell? ⟨b, off + k * 2, none⟩ = some (.int .i64 (gx l (k))) ∧ w'.cell? ⟨b, off + k * 2 + 1, none⟩ = some (.int .i64 (gy l (k)))) _ rfl ?hC2 ?hs2 ?hV2 ?fin2
      case hC2 => exact fun w' hq => by have h := HB.out w' (by (repeat (first | exact Ext.refl _ | assumption | apply Ext.alloc | apply Ext.drew | apply Ext.drewN | (refine Ext.trans ?_ (by assumption))))); have h2 := ((hp.ext (show Ext w w' by (repeat (first | exact Ext.refl _ | assumption | apply Ext.alloc | apply Ext.drew | apply Ext.drewN | (refine Ext.trans ?_ (by assumption)))))).cell hk).2; have h3 := (hone.ext hq).cell; have h4 : wq.heap.size ≤ w'.heap.size := (show Ext wq w' from hq).size; simp only [h, h2, h3, h4, and_self]
      case hs2 =>
        repeat' (first
          | exact FSteps.nil
          | refine FSteps.cons ?_ ?_
          | (refine FStep.off_ _ _ _ rfl rfl ?_ (fun _ => rfl) ?_; (focus (intro u w hd; simp [vOf, is, Region.binds] at hd; simp [hd])); (intro w'; exact rfl); done)
          | ((first
              | refine FStep.plain rfl ?_
              | (refine FStep.on_ _ _ _ rfl rfl ?_ ?_; (focus (intro u w hd; simp [vOf, is, Region.binds] at hd; simp [hd]))))
             intro u w hW hC hd K hK
             (try simp [vOf, is, Region.binds] at hd)
             simp only [upd, Nat.reduceEqDiff, if_true, if_false] at hK
             (try simp only [hd] at hK)
             go_simp
             (first
               | (refine hK _ _ ?_ ?_; (first | exact rfl | exact SLn_new _ _ hC.1); (repeat (first | exact Ext.refl _ | assumption | apply Ext.alloc | apply Ext.drew | apply Ext.drewN | (refine Ext.trans ?_ (by assumption))))))))
      case hV2 => (simp only [List.forall_mem_cons]; simp [stable_is, SLn_stable])
      case fin2 =>
        intro u w2 hW2 hC2 hd
        simp only [AllV, is] at hd
        have hs7 := hd.2.2.2.2.2.2.2.1
        simp only [List.drop_succ_cons, List.drop_zero]
        simp only [hd]
        clear hd
        obtain ⟨b1, hu, hb1, hb1', hcells⟩ := hs7
        have hown2 := ownsRow_ext hown (show Ext wq w2 by (repeat (first | exact Ext.refl _ | assumption | apply Ext.alloc | apply Ext.drew | apply Ext.drewN | (refine Ext.trans ?_ (by assumption)))))
        have h12 := hone.ext (show Ext wq w2 by (repeat (first | exact Ext.refl _ | assumption | apply Ext.alloc | apply Ext.drew | apply Ext.drewN | (refine Ext.trans ?_ (by assumption)))))
        simp only [hu]
        have hsz2 := (show Ext ((w.alloc (.cells #[.slice (some ⟨b, off, none⟩) l.length c] 29)).alloc (.cells #[.slice none 0 0] 29)) w2 by (repeat (first | exact Ext.refl _ | assumption | apply Ext.alloc | apply Ext.drew | apply Ext.drewN | (refine Ext.trans ?_ (by assumption))))).size
        simp at hsz2
        refine wpList_app _ rfl (.tmp 29) (.tmp 35) _ rfl (w.heap.size + 1 + 1 + 1) 35 i0 _ 2 16 Try.underlying27 hI hZ hS hY rfl (by omega) v j _ rfl hown2 ⟨b1, 0, none⟩ 1 1 _ rfl rfl (SLn.addr hcells) (by simp [Value.oneCell']) (by unfold maxLen; omega) (by omega) (by have := h12.cell.1; omega) ?_
        intro v' w3 hown3 hg3 _
        have hr3 : ∀ q, v.ownBlock = some q → w.heap.size + 1 + 1 + 1 ≤ q := fun q hq => (hown2.lt q hq).1
        have hx3 : Ext ((w.alloc (.cells #[.slice (some ⟨b, off, none⟩) l.length c] 29)).alloc (.cells #[.slice none 0 0] 29)) w3 := ext_grown (show Ext ((w.alloc (.cells #[.slice (some ⟨b, off, none⟩) l.length c] 29)).alloc (.cells #[.slice none 0 0] 29)) w2 by (repeat (first | exact Ext.refl _ | assumption | apply Ext.alloc | apply Ext.drew | apply Ext.drewN | (refine Ext.trans ?_ (by assumption))))) hg3 (fun q hq => by have := hr3 q hq; simp; omega)
        obtain ⟨A3, c3, rfl⟩ := ownsRow_slice hown3
        have h13 := h12.grown hg3 (fun e => by have := hr3 _ e; omega)
        obtain ⟨u1, u2, u3⟩ := h13.cell
        have hset := h13.set (.slice A3 (j + 1) c3)
        have hownS := ownsRow_set hown3 (p := ⟨w.heap.size + 1 + 1, 0, none⟩) (by show w.heap.size + 1 + 1 < _; omega) (.slice A3 (j + 1) c3)
        have hxs : Ext ((w.alloc (.cells #[.slice (some ⟨b, off, none⟩) l.length c] 29)).alloc (.cells #[.slice none 0 0] 29)) (w3.setCell ⟨w.heap.size + 1 + 1, 0, none⟩ (.slice A3 (j + 1) c3)) := hx3.setCell (by simp) _
        have HSET := hide hset
        have HOWN := hide hownS
        have HBS := HB.out _ hxs
        clear hset hownS hC2 hcells hown hown2 hg3 hown3 h12 h13 hr3
        have hsz3 := hxs.size
        simp at hsz3
        go_wp2
        refine bodyPost_ret (v := .agg #[.slice A3 (j + 1) c3]) (by simp [results, Try.results66, go_sem, HBS]) rfl ?_
        have hlen : (stL l i k).length = j + 1 := by rw [HV2.out, rotL_length]
        have hown5 := HOWN.out
        rw [← HRS.out, ← HV2.out] at hown5
        have h6 := (OwnS.of_own hown5).2
        exact ⟨A3, c3, by rw [hlen], (h6.set_below (p := ⟨w.heap.size + 1, 0, none⟩) (by show w.heap.size + 1 < _; omega) _).more (by omega) (by simp only [size_setCell]; exact Nat.le_refl _), (show Ext w (w3.setCell ⟨w.heap.size + 1 + 1, 0, none⟩ (.slice A3 (j + 1) c3)) by (repeat (first | exact Ext.refl _ | assumption | apply Ext.alloc | apply Ext.drew | apply Ext.drewN | (refine Ext.trans ?_ (by assumption))))).setCell (by simp) _⟩

/-- a row of one point, in a block of its own -/
theorem ownsRow_one (w : World) (x y : Int) : (w.alloc (.cells #[.int .i64 x, .int .i64 y] 35)).ownsRow w.heap.size 35 2 (.slice (some ⟨w.heap.size, 0, none⟩) 1 1) 1 [.int .i64 x, .int .i64 y] :=
  ⟨rfl, .inr ⟨w.heap.size, 1, #[.int .i64 x, .int .i64 y], rfl, Nat.le_refl _, heap_alloc_new w _, Nat.le_refl _, by unfold maxLen; omega, rfl, rfl⟩⟩

set_option maxRecDepth 100000 in
set_option maxHeartbeats 3200000 in
theorem l09Part_any (A : Option Addr) (l : List (Int × Int)) (c i k : Nat) (w : World) (hp : RPts w A l) (hn : l.length ≤ 1048576) (hi : i < l.length) (hk : k < l.length) :
    Calls Try.prog 65 #[.slice A l.length c, .int .i64 i, .int .i64 k] w (RetP 35 (stL l i k) w) := by
  obtain ⟨b, off, rfl⟩ := hp.some_ (by omega)
  obtain ⟨i0, hI, hZ, hS, hY⟩ := info_parts info_ipt
  obtain ⟨d, hd⟩ : ∃ d, d = gap l.length i k := ⟨_, rfl⟩
  have hdl : d < l.length := by rw [hd]; exact gap_lt hi hk
  have HEND := hide (show (i + d) % l.length = k by rw [hd]; exact gap_end hi hk)
  have HNE := hide (show ∀ j, j < d → (i + j) % l.length ≠ k from fun j hj => gap_ne hi hk (by omega))
  have HV := hide (show stL l i k = rotL l i (d + 1) by rw [hd]; rfl)
  clear hd
  obtain ⟨hz, hx, hy⟩ := hp.cell hi
  have q0 : (i : Int) < (l.length : Int) := by omega
  have q6 : l ≠ [] := fun e => by rw [e] at hi; simp at hi
  have hone := ownsRow_one w (gx l i) (gy l i)
  have HONE := hide hone
  clear hone
  go_enter Try.func65, Try.ntmps65
  go_wp2
  go_loopw [1, 7] (fun iv out wr => ∃ (j : Nat) (o : Value), j ≤ d ∧ iv = .int .i64 (((i + j) % l.length : Nat) : Int) ∧ o = out ∧ Ext w wr ∧ wr.ownsRow w.heap.size 35 2 o (j + 1) (flat (rotL l i (j + 1)))) (fun iv _ _ => d - gap l.length i (intOf iv).toNat)
  case atStart => exact ⟨0, _, Nat.zero_le _, by rw [Nat.add_zero, Nat.mod_eq_of_lt hi], rfl, by (repeat (first | exact Ext.refl _ | assumption | apply Ext.alloc | apply Ext.drew | apply Ext.drewN | (refine Ext.trans ?_ (by assumption)))), by have h := HONE.out; simpa [rotL, flat, Nat.mod_eq_of_lt hi, gx, gy] using h⟩
  case round =>
    obtain ⟨j, o, hj, rfl, ho, hbl, hown⟩ := hrel
    subst ho
    obtain ⟨wq, rfl⟩ : ∃ wq : World, wq = wr := ⟨_, rfl⟩
    obtain ⟨mm, hmm⟩ : ∃ q : Nat, q = (i + j) % l.length := ⟨_, rfl⟩
    have hml : mm < l.length := by rw [hmm]; exact Nat.mod_lt _ (by omega)
    clear hx hy
    by_cases hlt : j < d
    · have hne := HNE.out j hlt
      rw [← hmm] at hne
      have hne2 : ((mm : Int) != (k : Int)) = true := by simp only [bne_iff_ne, ne_eq]; omega
      obtain ⟨m2, hm2⟩ : ∃ q : Nat, q = (i + (j + 1)) % l.length := ⟨_, rfl⟩
      have hml2 : m2 < l.length := by rw [hm2]; exact Nat.mod_lt _ (by omega)
      have hst : (mm + 1) % l.length = m2 := by rw [hmm, hm2]; exact mod_step _ _ _
      have HRS := hide (show flat (rotL l i (j + 1 + 1)) = flat (rotL l i (j + 1)) ++ [.int .i64 (gx l m2), .int .i64 (gy l m2)] by rw [rotL_succ, flat_append, ← hm2]; rfl)
      rw [← hmm]
      have HMM := hide hmm
      have HM2 := hide hm2
      clear hmm hm2
      obtain ⟨q1, q2, q3, q4, q5⟩ := idx_facts ((mm : Int) + 1) (mm + 1) l.length (by omega) (by omega) (by omega)
      rw [hst] at q5
      have q7 : ((mm : Int) + 1) % (l.length : Int) = (m2 : Int) := by rw [← hst, Int.natCast_emod]; try rfl
      rw [q7] at q2 q3 q4 q5
      clear q7 hst
      obtain ⟨hz2, hx2, hy2⟩ := (hp.ext (show Ext w wq by (repeat (first | exact Ext.refl _ | assumption | apply Ext.alloc | apply Ext.drew | apply Ext.drewN | (refine Ext.trans ?_ (by assumption)))))).cell hml2
      have j1 : (m2 : Int) < (l.length : Int) := by omega
      go_wp2_with (at_builtin; refine wpList_app _ rfl (.tmp 21) (.tmp 26) _ rfl w.heap.size 35 i0 _ 2 16 Try.underlying27 hI hZ hS hY rfl (by omega) _ (j + 1) (flat (rotL l i (j + 1))) (by rfl) (ownsRow_ext hown (by (repeat (first | exact Ext.refl _ | assumption | apply Ext.alloc | apply Ext.drew | apply Ext.drewN | (refine Ext.trans ?_ (by assumption)))))) ⟨wq.heap.size, 0, none⟩ 1 1 [.int .i64 (gx l m2), .int .i64 (gy l m2)] (by rfl) rfl (news_alloc wq [.int .i64 (gx l m2), .int .i64 (gy l m2)] 35) (by simp [Value.oneCell']) (by unfold maxLen; omega) (by omega) (by have := (show Ext w wq by (repeat (first | exact Ext.refl _ | assumption | apply Ext.alloc | apply Ext.drew | apply Ext.drewN | (refine Ext.trans ?_ (by assumption))))).size; simp; try omega) ?_; intro v' w3 hown3 hg3 _)
      have hx3 : Ext w w3 := ext_grown (show Ext w (wq.alloc (.cells #[.int .i64 (gx l m2), .int .i64 (gy l m2)] 35)) by (repeat (first | exact Ext.refl _ | assumption | apply Ext.alloc | apply Ext.drew | apply Ext.drewN | (refine Ext.trans ?_ (by assumption))))) hg3 (fun q hq => (hown.lt q hq).1)
      clear hown hg3 hx2 hy2
      go_wp2
      go_roundw
      case rel => exact ⟨j + 1, _, by omega, by rw [← HM2.out], rfl, hx3, by rw [HRS.out]; exact hown3⟩
      case measure =>
        have g1 := gap_at (j := j) hi (by omega)
        have g2 := gap_at (j := j + 1) hi (by omega)
        rw [← HMM.out] at g1
        rw [← HM2.out] at g2
        simp only [intOf, Int.toNat_natCast, g1, g2]
        omega
    · have e : j = d := by omega
      have hmk : mm = k := by rw [hmm, e]; exact HEND.out
      have HV2 := hide (show stL l i k = rotL l i (j + 1) by rw [HV.out, e])
      rw [← hmm, hmk]
      have hne2 : ((k : Int) != (k : Int)) = false := by simp
      clear hmm hmk e hlt
      obtain ⟨A', c', rfl⟩ := ownsRow_slice hown
      go_wp2
      go_ret
      rw [← HV2.out] at hown
      have hlen : (stL l i k).length = j + 1 := by rw [HV2.out, rotL_length]
      exact ⟨A', c', by rw [hlen]; rfl, (OwnS.of_own hown).2.more (Nat.le_refl _) (Nat.le_refl _), by (repeat (first | exact Ext.refl _ | assumption | apply Ext.alloc | apply Ext.drew | apply Ext.drewN | (refine Ext.trans ?_ (by assumption))))⟩

end Go.Proofs.Ytmccffmkfdcmmaa
