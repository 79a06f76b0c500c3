/-
  Contract: the reference's StartAt (the plain part so far).
-/
import Derived.Test.YtnalongggkmllaaStartAt
namespace Go.Proofs.Ytnalongggkmllaa
open Go.RowKit

/-- the first k corners from corner m on -/
def rotL (l : List (Int × Int)) (m k : Nat) : List (Int × Int) := (List.range k).map fun j => l.getD ((m + j) % l.length) (0, 0)
theorem rotL_succ (l : List (Int × Int)) (m k : Nat) : rotL l m (k + 1) = rotL l m k ++ [l.getD ((m + k) % l.length) (0, 0)] := by
  unfold rotL
  rw [List.range_succ, List.map_append]
  rfl
theorem rotL_length (l : List (Int × Int)) (m k : Nat) : (rotL l m k).length = k := by simp [rotL]
theorem rotL_full {l : List (Int × Int)} {m : Nat} (hm : m < l.length) : rotL l m l.length = startL l m := by
  apply List.ext_getElem
  · rw [rotL_length, startL_length]
  · intro j h1 h2
    rw [rotL_length] at h1
    simp only [rotL, List.getElem_map, List.getElem_range, startL, List.getElem_append, List.length_drop]
    split
    · rw [Nat.mod_eq_of_lt (by omega), List.getElem_drop]
      simp [List.getD_eq_getElem?_getD, List.getElem?_eq_getElem (show m + j < l.length by omega)]
    · rw [Nat.mod_eq_sub_mod (by omega), Nat.mod_eq_of_lt (by omega), List.getElem_take]
      have e : m + j - l.length = j - (l.length - m) := by omega
      rw [e]
      simp [List.getD_eq_getElem?_getD, List.getElem?_eq_getElem (show j - (l.length - m) < l.length by omega)]

def OneC (w : World) (b : Nat) (T : TypeId) (v : Value) : Prop := w.heap[b]? = some (.cells #[v] T (0, 0))
theorem OneC.ext {w w' : World} {b : Nat} {T : TypeId} {v : Value} (h : OneC w b T v) (hx : Ext w w') : OneC w' b T v := (hx.below.block b (heap_lt h)).trans h
theorem OneC.cell {w : World} {b : Nat} {T : TypeId} {v : Value} (h : OneC w b T v) : b < w.heap.size ∧ w.cell? ⟨b, 0, none⟩ = some v ∧ w.frozen? ⟨b, 0, none⟩ = false := ⟨heap_lt h, by rw [blk_cell h]; rfl, blk_free h 0⟩
theorem OneC.set {w : World} {b : Nat} {T : TypeId} {v : Value} (h : OneC w b T v) (u : Value) : OneC (w.setCell ⟨b, 0, none⟩ u) b T u := by
  unfold OneC at *
  simp [World.setCell, Array.getElem?_modify, h]
theorem OneC.new (w : World) (T : TypeId) (v : Value) : OneC (w.alloc (.cells #[v] T)) w.heap.size T v := heap_alloc_new w _

theorem ownsRow_set {w : World} {base e size n : Nat} {v : Value} {xs : List Value} (h : w.ownsRow base e size v n xs) {p : Addr} (hp : p.block < base) (u : Value) : (w.setCell p u).ownsRow base e size v n xs := by
  obtain ⟨h1, h2⟩ := h
  refine ⟨h1, ?_⟩
  rcases h2 with h2 | ⟨g, cap, cur, hv, hg, hh, h3⟩
  · exact .inl h2
  · exact .inr ⟨g, cap, cur, hv, hg, (Below.heap_setCell _ _ _ _ (by omega)).trans hh, h3⟩
theorem OneC.grown {w w' : World} {b : Nat} {T : TypeId} {v : Value} {row : Option Nat} (h : OneC w b T v) (hg : w.grownBy w' row) (hr : row ≠ some b) : OneC w' b T v := (hg.block b (heap_lt h) (fun e => hr e.symm)).trans h

set_option maxRecDepth 100000 in
set_option maxHeartbeats 3200000 in
theorem sStartAt_true (b off : Nat) (l : List (Int × Int)) (c m : Nat) (w : World) (hp : RPts w (some ⟨b, off, none⟩) l) (hn : l.length ≤ 1048576) (hm : m < l.length) (hr : roomB l = true) :
    Calls Try.prog 10 #[.agg #[.slice (some ⟨b, off, none⟩) l.length c], .int .i64 m] w (RetR 41 (startL l m) w) := by
  obtain ⟨i0, hI, hZ, hS, hY⟩ := info_parts info_ipt
  have HB : Hid (∀ w', Ext ((w.alloc (.cells #[.slice (some ⟨b, off, none⟩) l.length c] 28)).alloc (.cells #[.slice none 0 0] 28)) w' → w'.cell? ⟨w.heap.size, 0, none⟩ = some (.slice (some ⟨b, off, none⟩) l.length c) ∧ w.heap.size < w'.heap.size ∧ w'.cell? ⟨w.heap.size + 1, 0, none⟩ = some (.slice none 0 0) ∧ w'.frozen? ⟨w.heap.size + 1, 0, none⟩ = false ∧ w.heap.size + 1 < w'.heap.size) := fun w' hx => by
    and_intros <;> (first | (have hz := hx.size; simp at hz; omega) | ((first | rw [hx.cells _ _ (by first | (simp; done) | (simp; omega))] | rw [hx.frozens _ _ (by first | (simp; done) | (simp; omega))]); (first | (simp [go_sem]; done) | (simp [go_sem, World.cell?_alloc_past]; done) | (simp [go_sem, World.frozen?]; done))))
  have hib : inB (m : Int) 0 ((l.length : Int) - 1) = true := by simp [inB]; omega
  have HIB := hide hib
  go_enter Try.func10, Try.ntmps10
  go_wp2
  go_loopw [6] (fun i wr => ∃ (k : Nat) (v : Value), k ≤ l.length ∧ i = .int .i64 k ∧ Ext ((w.alloc (.cells #[.slice (some ⟨b, off, none⟩) l.length c] 28)).alloc (.cells #[.slice none 0 0] 28)) wr ∧ OneC wr (w.heap.size + 1 + 1) 28 v ∧ wr.ownsRow (w.heap.size + 1 + 1 + 1) 41 2 v k (flat (rotL l m k))) (fun i _ => l.length - (intOf i).toNat)
  case atStart => exact ⟨0, .slice none 0 0, Nat.zero_le _, rfl, by (repeat (first | exact Ext.refl _ | assumption | apply Ext.alloc | apply Ext.drew | apply Ext.drewN | (refine Ext.trans ?_ (by assumption)))), by have h := OneC.new ((w.alloc (.cells #[.slice (some ⟨b, off, none⟩) l.length c] 28)).alloc (.cells #[.slice none 0 0] 28)) 28 (.slice none 0 0); simpa using h, ⟨rfl, .inl ⟨rfl, rfl⟩⟩⟩
  case round =>
    obtain ⟨k, v, hk, rfl, hbl, hone, hown⟩ := hrel
    obtain ⟨wq, rfl⟩ : ∃ wq : World, wq = wr := ⟨_, rfl⟩
    have hcb := HB.out wq hbl
    by_cases hlt : k < l.length
    · obtain ⟨mm, hmm⟩ : ∃ q : Nat, q = (m + k) % l.length := ⟨_, rfl⟩
      have hml : mm < l.length := by rw [hmm]; exact Nat.mod_lt _ (by omega)
      have r0 : IntKind.i64.wrap ((m : Int) + (k : Int)) = (m : Int) + (k : Int) := wrap_in _ (by omega) (by omega)
      have r1 : ((m : Int) + (k : Int)) % (l.length : Int) = (mm : Int) := by rw [hmm]; simp
      have r2 : ((m : Int) + (k : Int)).tmod (l.length : Int) = (mm : Int) := by rw [Int.tmod_eq_emod_of_nonneg (by omega)]; exact r1
      have HMM := hide hmm
      have hpl : gx l mm = (l.getD mm (0, 0)).1 ∧ gy l mm = (l.getD mm (0, 0)).2 := ⟨rfl, rfl⟩
      have HRS := hide (show flat (rotL l m (k + 1)) = flat (rotL l m k) ++ [.int .i64 (gx l mm), .int .i64 (gy l mm)] by rw [rotL_succ, flat_append, ← hmm]; rfl)
      clear hmm hpl
      go_wp2_with (first | (go_at_call 32; refine (l01In_any _ _ _ _).mono ?_; rintro e w2 ⟨rfl, rfl⟩) | (go_at_call 31; refine (sRoomOk_any _ _ _ _ (hp.ext (by (repeat (first | exact Ext.refl _ | assumption | apply Ext.alloc | apply Ext.drew | apply Ext.drewN | (refine Ext.trans ?_ (by assumption)))))) hn).mono ?_; rintro e w1 ⟨rfl, hb1⟩; rw [hr]; have f1 := HB.out w1 (by (repeat (first | exact Ext.refl _ | assumption | apply Ext.alloc | apply Ext.drew | apply Ext.drewN | (refine Ext.trans ?_ (by assumption)))))))
      obtain ⟨wx, rfl⟩ : ∃ wx : World, wx = w1 := ⟨_, rfl⟩
      have h1 := hone.ext (show Ext wq wx by (repeat (first | exact Ext.refl _ | assumption | apply Ext.alloc | apply Ext.drew | apply Ext.drewN | (refine Ext.trans ?_ (by assumption)))))
      obtain ⟨o1, o2, o3⟩ := h1.cell
      have i1 : (0 : Int) ≤ (mm : Int) := by omega
      have i2 : (mm : Int) < (l.length : Int) := by omega
      have i3 : ((l.length : Int) == 0) = false := by simp only [beq_eq_false_iff_ne]; omega
      have i4 : ¬ (l.length : Int) = 0 := by omega
      have i5 : ¬ l.length = 0 := by omega
      refine wp_flow_tail 14 (by kernel_rfl) (by kernel_rfl) (by kernel_rfl) (by kernel_rfl) (fun u => ⟨#[_, _, _, _, _, _, _, _, _, _, _, _, _, _, _, _, _, _, _, _, _, _, _, _, _, _, _, u 0, u 1, u 2, u 3, u 4, u 5, u 6, u 7, u 8, u 9, u 10, u 11, u 12, u 13, _, _, _], _⟩) (fun i => List.getD [_, _, _, _, _, _, _, _, _, _, _, _, _, _] i undef) [is ?v34_0, is ?v34_1, is ?v34_2, is ?v34_3, is ?v34_4, is ?v34_5, is ?v34_6, is ?v34_7, is ?v34_8, is ?v34_9, is ?v34_10, is ?v34_11, is ?v34_12, (SLn wx.heap.size [.int .i64 (gx l mm), .int .i64 (gy l mm)] 1)] (fun w' => wx.heap.size ≤ w'.heap.size ∧ w'.cell? ⟨w.heap.size, 0, none⟩ = some (.slice (some ⟨b, off, none⟩) l.length c) ∧ w.heap.size < w'.heap.size ∧ w'.cell? ⟨w.heap.size + 1, 0, none⟩ = some (.slice none 0 0) ∧ w'.frozen? ⟨w.heap.size + 1, 0, none⟩ = false ∧ w.heap.size + 1 < w'.heap.size ∧ w'.cell? ⟨w.heap.size + 1 + 1, 0, none⟩ = some v ∧ w'.cell? ⟨b, off + mm * 2, none⟩ = some (.int .i64 (gx l (mm))) ∧ w'.cell? ⟨b, off + mm * 2 + 1, none⟩ = some (.int .i64 (gy l (mm)))) _ rfl ?hC34 ?hs34 ?hV34 ?fin34
      case hC34 => exact fun w' hq => by have h := HB.out w' (by (repeat (first | exact Ext.refl _ | assumption | apply Ext.alloc | apply Ext.drew | apply Ext.drewN | (refine Ext.trans ?_ (by assumption))))); have h2 := ((hp.ext (show Ext w w' by (repeat (first | exact Ext.refl _ | assumption | apply Ext.alloc | apply Ext.drew | apply Ext.drewN | (refine Ext.trans ?_ (by assumption)))))).cell hml).2; have h3 := (h1.ext hq).cell; have h4 : wx.heap.size ≤ w'.heap.size := (show Ext wx w' from hq).size; simp only [h, h2, h3, h4, and_self]
      case hs34 =>
        repeat' (first
          | exact FSteps.nil
          | refine FSteps.cons ?_ ?_
          | (refine FStep.off_ _ _ _ rfl rfl ?_ (fun _ => rfl) ?_; (focus (intro u w hd; simp [vOf, is, Region.binds] at hd; simp [hd])); (intro w'; exact rfl); done)
          | ((first
              | refine FStep.plain rfl ?_
              | (refine FStep.on_ _ _ _ rfl rfl ?_ ?_; (focus (intro u w hd; simp [vOf, is, Region.binds] at hd; simp [hd]))))
             intro u w hW hC hd K hK
             (try simp [vOf, is, Region.binds] at hd)
             simp only [upd, Nat.reduceEqDiff, if_true, if_false] at hK
             (try simp only [hd] at hK)
             go_simp
             (first
               | (refine hK _ _ ?_ ?_; (first | exact rfl | exact SLn_new _ _ hC.1); (repeat (first | exact Ext.refl _ | assumption | apply Ext.alloc | apply Ext.drew | apply Ext.drewN | (refine Ext.trans ?_ (by assumption))))))))
      case hV34 => (simp only [List.forall_mem_cons]; simp [stable_is, SLn_stable])
      case fin34 =>
        intro u w2 hW2 hC2 hd
        simp only [AllV, is] at hd
        have hs13 := hd.2.2.2.2.2.2.2.2.2.2.2.2.2.1
        simp only [List.drop_succ_cons, List.drop_zero]
        simp only [hd]
        clear hd
        obtain ⟨b1, hu, hb1, hb1', hcells⟩ := hs13
        have hown2 := ownsRow_ext hown (show Ext wq w2 by (repeat (first | exact Ext.refl _ | assumption | apply Ext.alloc | apply Ext.drew | apply Ext.drewN | (refine Ext.trans ?_ (by assumption)))))
        have h12 := h1.ext (show Ext wx w2 by (repeat (first | exact Ext.refl _ | assumption | apply Ext.alloc | apply Ext.drew | apply Ext.drewN | (refine Ext.trans ?_ (by assumption)))))
        simp only [hu]
        have hsz2 := (show Ext ((w.alloc (.cells #[.slice (some ⟨b, off, none⟩) l.length c] 28)).alloc (.cells #[.slice none 0 0] 28)) w2 by (repeat (first | exact Ext.refl _ | assumption | apply Ext.alloc | apply Ext.drew | apply Ext.drewN | (refine Ext.trans ?_ (by assumption))))).size
        simp at hsz2
        refine wpList_app _ rfl (.tmp 28) (.tmp 40) _ rfl (w.heap.size + 1 + 1 + 1) 41 i0 _ 2 16 Try.underlying26 hI hZ hS hY rfl (by omega) v k _ rfl hown2 ⟨b1, 0, none⟩ 1 1 _ rfl rfl (SLn.addr hcells) (by simp [Value.oneCell']) (by unfold maxLen; omega) (by omega) (by have := h12.cell.1; omega) ?_
        intro v' w3 hown3 hg3 _
        have hr3 : ∀ q, v.ownBlock = some q → w.heap.size + 1 + 1 + 1 ≤ q := fun q hq => (hown2.lt q hq).1
        have hx3 : Ext ((w.alloc (.cells #[.slice (some ⟨b, off, none⟩) l.length c] 28)).alloc (.cells #[.slice none 0 0] 28)) w3 := ext_grown (show Ext ((w.alloc (.cells #[.slice (some ⟨b, off, none⟩) l.length c] 28)).alloc (.cells #[.slice none 0 0] 28)) w2 by (repeat (first | exact Ext.refl _ | assumption | apply Ext.alloc | apply Ext.drew | apply Ext.drewN | (refine Ext.trans ?_ (by assumption))))) hg3 (fun q hq => by have := hr3 q hq; simp; omega)
        obtain ⟨A3, c3, rfl⟩ := ownsRow_slice hown3
        have h13 := h12.grown hg3 (fun e => by have := hr3 _ e; omega)
        obtain ⟨u1, u2, u3⟩ := h13.cell
        have hset := h13.set (.slice A3 (k + 1) c3)
        have hownS := ownsRow_set hown3 (p := ⟨w.heap.size + 1 + 1, 0, none⟩) (by show w.heap.size + 1 + 1 < _; omega) (.slice A3 (k + 1) c3)
        have HSET := hide hset
        have HOWN := hide hownS
        clear hset hownS hC2 hcells hown hown2 hg3 hown3 h12 h13 hr3
        go_wp2
        go_roundw
        case rel => exact ⟨k + 1, _, by omega, by go_num, hx3.setCell (by simp) _, HSET.out, by rw [HRS.out]; exact HOWN.out⟩
        case measure => simp [intOf]; omega
    · have e : k = l.length := by omega
      have E := hide e
      have hlt2 : ¬ (k : Int) < (l.length : Int) := by omega
      clear e
      obtain ⟨o1, o2, o3⟩ := hone.cell
      obtain ⟨A', c', rfl⟩ := ownsRow_slice hown
      go_wp2
      refine bodyPost_ret (v := .agg #[.slice A' k c']) (by simp [results, Try.results10, go_sem, hcb]) rfl ?_
      have hlen : (startL l m).length = k := by rw [startL_length, E.out]
      have hown5 : wq.ownsRow (w.heap.size + 1 + 1 + 1) 41 2 (.slice A' k c') k (flat (startL l m)) := by rw [← rotL_full hm, ← E.out]; exact hown
      have h6 := (OwnS.of_own hown5).2
      exact ⟨A', c', by rw [hlen], (h6.set_below (p := ⟨w.heap.size + 1, 0, none⟩) (by show w.heap.size + 1 < _; omega) _).more (by omega) (by rw [size_setCell]; exact Nat.le_refl _), by (repeat (first | exact Ext.refl _ | assumption | apply Ext.alloc | apply Ext.drew | apply Ext.drewN | (refine Ext.setCell ?_ (by simp; done) _) | (refine Ext.setCell ?_ (by simp; omega) _) | (refine Ext.trans ?_ (by assumption))))⟩


set_option maxRecDepth 100000 in
set_option maxHeartbeats 1600000 in
theorem sStartAt_any (A : Option Addr) (l : List (Int × Int)) (c : Nat) (k : Int) (w : World) (hp : RPts w A l) (hn : l.length ≤ 1048576) :
    Calls Try.prog 10 #[.agg #[.slice A l.length c], .int .i64 k] w (RetR 41 (startV l k) w) := by
  cases hk : hasC l k
  · have HV := hide (show startV l k = [] by simp [startV, hk])
    have HB : Hid (∀ w', Ext ((w.alloc (.cells #[.slice A l.length c] 28)).alloc (.cells #[.slice none 0 0] 28)) w' → w'.cell? ⟨w.heap.size, 0, none⟩ = some (.slice A l.length c) ∧ w.heap.size < w'.heap.size ∧ w'.cell? ⟨w.heap.size + 1, 0, none⟩ = some (.slice none 0 0) ∧ w'.frozen? ⟨w.heap.size + 1, 0, none⟩ = false ∧ w.heap.size + 1 < w'.heap.size) := fun w' hx => by
      and_intros <;> (first | (have hz := hx.size; simp at hz; omega) | ((first | rw [hx.cells _ _ (by first | (simp; done) | (simp; omega))] | rw [hx.frozens _ _ (by first | (simp; done) | (simp; omega))]); (first | (simp [go_sem]; done) | (simp [go_sem, World.cell?_alloc_past]; done) | (simp [go_sem, World.frozen?]; done))))
    go_enter Try.func10, Try.ntmps10
    go_wp2
    go_loopw [6] (fun i wr => i = .int .i64 0 ∧ Ext ((w.alloc (.cells #[.slice A l.length c] 28)).alloc (.cells #[.slice none 0 0] 28)) wr ∧ OneC wr (w.heap.size + 1 + 1) 28 (.slice none 0 0)) (fun i _ => 0)
    case atStart => exact ⟨rfl, by (repeat (first | exact Ext.refl _ | assumption | apply Ext.alloc | apply Ext.drew | apply Ext.drewN | (refine Ext.trans ?_ (by assumption)))), by have h := OneC.new ((w.alloc (.cells #[.slice A l.length c] 28)).alloc (.cells #[.slice none 0 0] 28)) 28 (.slice none 0 0); simpa using h⟩
    case round =>
      obtain ⟨rfl, hbl, hone⟩ := hrel
      obtain ⟨wq, rfl⟩ : ∃ wq : World, wq = wr := ⟨_, rfl⟩
      have hcb := HB.out wq hbl
      obtain ⟨o1, o2, o3⟩ := hone.cell
      by_cases h0 : 0 < l.length
      · cases hr : roomB l
        · go_wp2_with (first | (go_at_call 32; refine (l01In_any _ _ _ _).mono ?_; rintro e w2 ⟨rfl, rfl⟩) | (go_at_call 31; refine (sRoomOk_any _ _ _ _ (hp.ext (by (repeat (first | exact Ext.refl _ | assumption | apply Ext.alloc | apply Ext.drew | apply Ext.drewN | (refine Ext.trans ?_ (by assumption)))))) hn).mono ?_; rintro e w1 ⟨rfl, hb1⟩; rw [hr]; have f1 := HB.out w1 (by (repeat (first | exact Ext.refl _ | assumption | apply Ext.alloc | apply Ext.drew | apply Ext.drewN | (refine Ext.trans ?_ (by assumption))))); obtain ⟨z1, z2, z3⟩ := (hone.ext hb1).cell))
          refine bodyPost_ret (v := .agg #[.slice none 0 0]) (by simp [results, Try.results10, go_sem, *]) rfl ⟨none, 0, by rw [HV.out]; rfl, by rw [HV.out]; exact OwnS.nil, by (repeat (first | exact Ext.refl _ | assumption | apply Ext.alloc | apply Ext.drew | apply Ext.drewN | (refine Ext.setCell ?_ (by simp; done) _) | (refine Ext.setCell ?_ (by simp; omega) _) | (refine Ext.trans ?_ (by assumption))))⟩
        · have hib : inB k 0 ((l.length : Int) - 1) = false := by
            cases hi : inB k 0 ((l.length : Int) - 1)
            · rfl
            · simp [hasC, hr, hi] at hk
          go_wp2_with (first | (go_at_call 32; refine (l01In_any _ _ _ _).mono ?_; rintro e w2 ⟨rfl, rfl⟩) | (go_at_call 31; refine (sRoomOk_any _ _ _ _ (hp.ext (by (repeat (first | exact Ext.refl _ | assumption | apply Ext.alloc | apply Ext.drew | apply Ext.drewN | (refine Ext.trans ?_ (by assumption)))))) hn).mono ?_; rintro e w1 ⟨rfl, hb1⟩; rw [hr]; have f1 := HB.out w1 (by (repeat (first | exact Ext.refl _ | assumption | apply Ext.alloc | apply Ext.drew | apply Ext.drewN | (refine Ext.trans ?_ (by assumption))))); obtain ⟨z1, z2, z3⟩ := (hone.ext hb1).cell))
          refine bodyPost_ret (v := .agg #[.slice none 0 0]) (by simp [results, Try.results10, go_sem, *]) rfl ⟨none, 0, by rw [HV.out]; rfl, by rw [HV.out]; exact OwnS.nil, by (repeat (first | exact Ext.refl _ | assumption | apply Ext.alloc | apply Ext.drew | apply Ext.drewN | (refine Ext.setCell ?_ (by simp; done) _) | (refine Ext.setCell ?_ (by simp; omega) _) | (refine Ext.trans ?_ (by assumption))))⟩
      · have hr : roomB l = roomB l := rfl
        go_wp2
        refine bodyPost_ret (v := .agg #[.slice none 0 0]) (by simp [results, Try.results10, go_sem, *]) rfl ⟨none, 0, by rw [HV.out]; rfl, by rw [HV.out]; exact OwnS.nil, by (repeat (first | exact Ext.refl _ | assumption | apply Ext.alloc | apply Ext.drew | apply Ext.drewN | (refine Ext.setCell ?_ (by simp; done) _) | (refine Ext.setCell ?_ (by simp; omega) _) | (refine Ext.trans ?_ (by assumption))))⟩
  · obtain ⟨m, rfl, hm, hr⟩ := hasC_at hk
    obtain ⟨b, off, rfl⟩ := hp.some_ (by omega)
    refine (sStartAt_true b off l c m w hp hn hm hr).mono ?_
    have HV : startV l (m : Int) = startL l m := by simp [startV, hk]
    rw [HV]
    exact fun e w' h => h

end Go.Proofs.Ytnalongggkmllaa
