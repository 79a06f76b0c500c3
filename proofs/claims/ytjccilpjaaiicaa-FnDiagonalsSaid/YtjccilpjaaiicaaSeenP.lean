/-
  Contracts: CornersSeen, SeenBy (the program's).
-/
import Derived.Test.YtjccilpjaaiicaaSeesP
import Derived.Test.YtjccilpjaaiicaaJ6
namespace Go.Proofs.Ytjccilpjaaiicaa
open Go.RowKit

/-- the corners below k that are seen from a -/
def csL (l : List (Int × Int)) (ax ay : Int) (k : Nat) : List Int := ((List.range k).filter (fun i => seesV l ax ay (gx l i) (gy l i))).map fun (i : Nat) => (i : Int)
theorem csL_succ (l : List (Int × Int)) (ax ay : Int) (k : Nat) : csL l ax ay (k + 1) = if seesV l ax ay (gx l k) (gy l k) = true then csL l ax ay k ++ [(k : Int)] else csL l ax ay k := by
  unfold csL
  rw [List.range_succ, List.filter_append, List.map_append]
  cases h : seesV l ax ay (gx l k) (gy l k) <;> simp [h]
theorem csL_le (l : List (Int × Int)) (ax ay : Int) (k : Nat) : (csL l ax ay k).length ≤ k := by
  unfold csL
  rw [List.length_map]
  have := List.length_filter_le (fun i => seesV l ax ay (gx l i) (gy l i)) (List.range k)
  rwa [List.length_range] at this
/-- CornersSeen, as both texts give it -/
def csV (l : List (Int × Int)) (ax ay : Int) : List Int := if isInV l ax ay = true then csL l ax ay l.length else []
theorem csV_le (l : List (Int × Int)) (ax ay : Int) : (csV l ax ay).length ≤ l.length := by
  unfold csV
  split
  · exact csL_le l ax ay _
  · simp

/-- of the first k points of f those that are seen from a -/
def sbL (l f : List (Int × Int)) (ax ay : Int) (k : Nat) : List (Int × Int) := (f.take k).filter fun p => seesV l ax ay p.1 p.2
theorem sbL_succ (l f : List (Int × Int)) (ax ay : Int) {k : Nat} (hk : k < f.length) : sbL l f ax ay (k + 1) = if seesV l ax ay (gx f k) (gy f k) = true then sbL l f ax ay k ++ [(gx f k, gy f k)] else sbL l f ax ay k := by
  unfold sbL
  rw [take_at f hk, List.filter_append]
  cases h : seesV l ax ay (gx f k) (gy f k) <;> simp [h]
theorem sbL_le (l f : List (Int × Int)) (ax ay : Int) (k : Nat) : (sbL l f ax ay k).length ≤ k := by
  unfold sbL
  have h1 := List.length_filter_le (fun p : Int × Int => seesV l ax ay p.1 p.2) (f.take k)
  have h2 := List.length_take_le k f
  omega
/-- SeenBy, as both texts give it -/
def sbV (l : List (Int × Int)) (ax ay : Int) : List (Int × Int) := if isInV l ax ay = true then sbL l (floorL l) ax ay (floorL l).length else []
theorem sbV_le (l : List (Int × Int)) (ax ay : Int) : (sbV l ax ay).length ≤ 1048576 := by
  unfold sbV
  split
  · rename_i h
    obtain ⟨_, hr, _⟩ := isIn_iff.1 h
    have h1 := floorL_le (roomB_fine hr).1 (by have := (roomB_fine hr).2; omega)
    have h2 := sbL_le l (floorL l) ax ay (floorL l).length
    omega
  · simp

set_option maxRecDepth 100000 in
set_option maxHeartbeats 1600000 in
theorem CornersSeen_any (A : Option Addr) (l : List (Int × Int)) (c : Nat) (ax ay : Int) (w : World) (hp : RPts w A l) (hn : l.length ≤ 1048576) :
    Calls Try.prog 9 #[.agg #[.slice A l.length c], .agg #[.int .i64 ax, .int .i64 ay]] w (RetI 3 (csV l ax ay) w) := by
  obtain ⟨i0, hI, hZ, hS, hY⟩ := info_parts info_int
  have HB : Hid (∀ w', Ext ((w.alloc (.cells #[.slice A l.length c] 26)).alloc (.cells #[.int .i64 ax, .int .i64 ay] 28)) w' → w'.cell? ⟨w.heap.size, 0, none⟩ = some (.slice A l.length c) ∧ w.heap.size < w'.heap.size ∧ w'.cell? ⟨w.heap.size + 1, 0, none⟩ = some (.int .i64 ax) ∧ w'.cell? ⟨w.heap.size + 1, 1, none⟩ = some (.int .i64 ay) ∧ w.heap.size + 1 < w'.heap.size) := fun w' hx => by
    and_intros <;> (first | (have hz := hx.size; simp at hz; omega) | ((first | rw [hx.cells _ _ (by first | (simp; done) | (simp; omega))] | rw [hx.frozens _ _ (by first | (simp; done) | (simp; omega))]); (first | (simp [go_sem]; done) | (simp [go_sem, World.cell?_alloc_past]; done) | (simp [go_sem, World.frozen?]; done))))
  cases hi : isInV l ax ay
  · have HV := hide (show csV l ax ay = [] by simp [csV, hi])
    go_enter Try.func9, Try.ntmps9
    go_wp2_with (go_at_call 23; refine (IsIn_any _ _ _ _ _ _ (hp.ext (by (repeat (first | exact Ext.refl _ | assumption | apply Ext.alloc | apply Ext.drew | apply Ext.drewN | (refine Ext.trans ?_ (by assumption)))))) hn).mono ?_; rw [hi]; rintro e w1 ⟨rfl, hb1⟩)
    go_ret
    exact ⟨none, 0, by rw [HV.out]; rfl, by rw [HV.out]; exact OwnI.nil, by (repeat (first | exact Ext.refl _ | assumption | apply Ext.alloc | apply Ext.drew | apply Ext.drewN | (refine Ext.trans ?_ (by assumption))))⟩
  · have HV := hide (show csV l ax ay = csL l ax ay l.length by simp [csV, hi])
    have HIA := hide (isIn_iff.1 hi)
    have HF := hide (roomB_fine HIA.out.2.1).1
    go_enter Try.func9, Try.ntmps9
    go_wp2_with (go_at_call 23; refine (IsIn_any _ _ _ _ _ _ (hp.ext (by (repeat (first | exact Ext.refl _ | assumption | apply Ext.alloc | apply Ext.drew | apply Ext.drewN | (refine Ext.trans ?_ (by assumption)))))) hn).mono ?_; rw [hi]; rintro e wa ⟨rfl, hb⟩; have hcc := HB.out wa (by (repeat (first | exact Ext.refl _ | assumption | apply Ext.alloc | apply Ext.drew | apply Ext.drewN | (refine Ext.trans ?_ (by assumption))))))
    have hxa : Ext w (wa.alloc (.cells #[] 3)) := by (repeat (first | exact Ext.refl _ | assumption | apply Ext.alloc | apply Ext.drew | apply Ext.drewN | (refine Ext.trans ?_ (by assumption))))
    clear hcc hi
    go_loopw [5, 16] (fun out i wr => ∃ (k : Nat) (o : Value), k ≤ l.length ∧ i = .int .i64 k ∧ o = out ∧ Ext ((w.alloc (.cells #[.slice A l.length c] 26)).alloc (.cells #[.int .i64 ax, .int .i64 ay] 28)) wr ∧ wr.ownsRow (w.heap.size + 1 + 1) 3 1 o (csL l ax ay k).length (ints (csL l ax ay k))) (fun _ i _ => l.length - (intOf i).toNat)
    case atStart => exact ⟨0, _, Nat.zero_le _, rfl, rfl, by (repeat (first | exact Ext.refl _ | assumption | apply Ext.alloc | apply Ext.drew | apply Ext.drewN | (refine Ext.trans ?_ (by assumption)))), rfl, .inr ⟨wa.heap.size, 0, #[], rfl, by have := hb.size; simpa using this, heap_alloc_new wa _, Nat.le_refl _, by unfold maxLen; omega, rfl, rfl⟩⟩
    case round =>
      obtain ⟨k, o, hk, rfl, ho, hbl, hown⟩ := hrel; subst ho
      obtain ⟨wq, rfl⟩ : ∃ wq : World, wq = wr := ⟨_, rfl⟩
      have hcb := HB.out wq hbl
      by_cases hlt : k < l.length
      · have hle := csL_le l ax ay k
        have q2 : (k : Int) < (l.length : Int) := by omega
        obtain ⟨b, off, rfl⟩ := hp.some_ (by omega)
        obtain ⟨hz, hx, hy⟩ := (hp.ext (show Ext w wq by (repeat (first | exact Ext.refl _ | assumption | apply Ext.alloc | apply Ext.drew | apply Ext.drewN | (refine Ext.trans ?_ (by assumption)))))).cell hlt
        have HQ : Hid (∀ w', Ext (wq.alloc (.cells #[.int .i64 (gx l k), .int .i64 (gy l k)] 28)) w' → w'.cell? ⟨wq.heap.size, 0, none⟩ = some (.int .i64 (gx l k)) ∧ w'.cell? ⟨wq.heap.size, 1, none⟩ = some (.int .i64 (gy l k)) ∧ wq.heap.size < w'.heap.size) := fun w' hx => by
          and_intros <;> (first | (have hz := hx.size; simp at hz; omega) | ((first | rw [hx.cells _ _ (by first | (simp; done) | (simp; omega))] | rw [hx.frozens _ _ (by first | (simp; done) | (simp; omega))]); (first | (simp [go_sem]; done) | (simp [go_sem, World.cell?_alloc_past]; done) | (simp [go_sem, World.frozen?]; done))))
        cases hbk : seesV l ax ay (gx l k) (gy l k)
        · have HS := hide (show csL l ax ay (k + 1) = csL l ax ay k by rw [csL_succ, hbk]; rfl)
          go_wp2_with (go_at_call 22; refine (sees_any _ _ _ _ _ _ _ _ (hp.ext (by (repeat (first | exact Ext.refl _ | assumption | apply Ext.alloc | apply Ext.drew | apply Ext.drewN | (refine Ext.trans ?_ (by assumption)))))) HIA.out.2.1 HIA.out.1 (HF.out.pok hlt)).mono ?_; rw [hbk]; rintro e w1 ⟨rfl, hb1⟩)
          go_roundw
          case rel => exact ⟨k + 1, _, by omega, by go_num, rfl, by (repeat (first | exact Ext.refl _ | assumption | apply Ext.alloc | apply Ext.drew | apply Ext.drewN | (refine Ext.trans ?_ (by assumption)))), by rw [HS.out]; exact ownsRow_ext hown (by (repeat (first | exact Ext.refl _ | assumption | apply Ext.alloc | apply Ext.drew | apply Ext.drewN | (refine Ext.trans ?_ (by assumption)))))⟩
          case measure => simp [intOf]; omega
        · have HS := hide (show csL l ax ay (k + 1) = csL l ax ay k ++ [(k : Int)] by rw [csL_succ, hbk]; rfl)
          go_wp2_with (first | (go_at_call 22; refine (sees_any _ _ _ _ _ _ _ _ (hp.ext (by (repeat (first | exact Ext.refl _ | assumption | apply Ext.alloc | apply Ext.drew | apply Ext.drewN | (refine Ext.trans ?_ (by assumption)))))) HIA.out.2.1 HIA.out.1 (HF.out.pok hlt)).mono ?_; rw [hbk]; rintro e w1 ⟨rfl, hb1⟩; have hsz1 := (show Ext ((w.alloc (.cells #[.slice (some ⟨b, off, none⟩) l.length c] 26)).alloc (.cells #[.int .i64 ax, .int .i64 ay] 28)) w1 by (repeat (first | exact Ext.refl _ | assumption | apply Ext.alloc | apply Ext.drew | apply Ext.drewN | (refine Ext.trans ?_ (by assumption))))).size; (simp at hsz1)) | (at_builtin; refine wpList_app _ rfl (.tmp 25) (.tmp 27) _ rfl (w.heap.size + 1 + 1) 3 i0 _ 1 8 Try.underlying33 hI hZ hS hY rfl (by omega) _ _ (ints (csL l ax ay k)) (by rfl) (ownsRow_ext hown (by (repeat (first | exact Ext.refl _ | assumption | apply Ext.alloc | apply Ext.drew | apply Ext.drewN | (refine Ext.trans ?_ (by assumption)))))) ⟨w1.heap.size, 0, none⟩ 1 1 [.int .i64 (k : Int)] (by rfl) rfl (news_alloc w1 [.int .i64 (k : Int)] 3) (by simp [Value.oneCell']) (by unfold maxLen; omega) (by omega) (by simp; omega) ?_; intro v' w3 hown3 hg3 _))
          have hx3 : Ext ((w.alloc (.cells #[.slice (some ⟨b, off, none⟩) l.length c] 26)).alloc (.cells #[.int .i64 ax, .int .i64 ay] 28)) w3 := ext_grown (show Ext ((w.alloc (.cells #[.slice (some ⟨b, off, none⟩) l.length c] 26)).alloc (.cells #[.int .i64 ax, .int .i64 ay] 28)) (w1.alloc (.cells #[.int .i64 (k : Int)] 3)) by (repeat (first | exact Ext.refl _ | assumption | apply Ext.alloc | apply Ext.drew | apply Ext.drewN | (refine Ext.trans ?_ (by assumption))))) hg3 (fun q hq => by have := (hown.lt q hq).1; simpa using this)
          clear hown hg3
          go_wp2
          go_roundw
          case rel => exact ⟨k + 1, _, by omega, by go_num, rfl, hx3, by rw [HS.out, ints_append, List.length_append]; exact hown3⟩
          case measure => simp [intOf]; omega
      · have e : k = l.length := by omega
        have q2 : ¬ (k : Int) < (l.length : Int) := by omega
        have E := hide e
        clear e
        obtain ⟨A', c', rfl⟩ := ownsRow_slice hown
        go_wp2
        go_ret
        rw [E.out] at hown
        exact ⟨A', c', by rw [HV.out, E.out]; rfl, by rw [HV.out]; exact (OwnI.of_own hown).2.more (by omega) (Nat.le_refl _), by (repeat (first | exact Ext.refl _ | assumption | apply Ext.alloc | apply Ext.drew | apply Ext.drewN | (refine Ext.trans ?_ (by assumption))))⟩

set_option maxRecDepth 100000 in
set_option maxHeartbeats 1600000 in
theorem SeenBy_any (A : Option Addr) (l : List (Int × Int)) (c : Nat) (ax ay : Int) (w : World) (hp : RPts w A l) (hn : l.length ≤ 1048576) :
    Calls Try.prog 8 #[.agg #[.slice A l.length c], .agg #[.int .i64 ax, .int .i64 ay]] w (RetP 28 (sbV l ax ay) w) := by
  obtain ⟨i0, hI, hZ, hS, hY⟩ := info_parts info_ipt
  have HB : Hid (∀ w', Ext ((w.alloc (.cells #[.slice A l.length c] 26)).alloc (.cells #[.int .i64 ax, .int .i64 ay] 28)) w' → w'.cell? ⟨w.heap.size, 0, none⟩ = some (.slice A l.length c) ∧ w.heap.size < w'.heap.size ∧ w'.cell? ⟨w.heap.size + 1, 0, none⟩ = some (.int .i64 ax) ∧ w'.cell? ⟨w.heap.size + 1, 1, none⟩ = some (.int .i64 ay) ∧ w.heap.size + 1 < w'.heap.size) := fun w' hx => by
    and_intros <;> (first | (have hz := hx.size; simp at hz; omega) | ((first | rw [hx.cells _ _ (by first | (simp; done) | (simp; omega))] | rw [hx.frozens _ _ (by first | (simp; done) | (simp; omega))]); (first | (simp [go_sem]; done) | (simp [go_sem, World.cell?_alloc_past]; done) | (simp [go_sem, World.frozen?]; done))))
  cases hi : isInV l ax ay
  · have HV := hide (show sbV l ax ay = [] by simp [sbV, hi])
    go_enter Try.func8, Try.ntmps8
    go_wp2_with (go_at_call 23; refine (IsIn_any _ _ _ _ _ _ (hp.ext (by (repeat (first | exact Ext.refl _ | assumption | apply Ext.alloc | apply Ext.drew | apply Ext.drewN | (refine Ext.trans ?_ (by assumption)))))) hn).mono ?_; rw [hi]; rintro e w1 ⟨rfl, hb1⟩)
    go_ret
    exact ⟨none, 0, by rw [HV.out]; rfl, by rw [HV.out]; exact OwnS.nil, by (repeat (first | exact Ext.refl _ | assumption | apply Ext.alloc | apply Ext.drew | apply Ext.drewN | (refine Ext.trans ?_ (by assumption))))⟩
  · have HV := hide (show sbV l ax ay = sbL l (floorL l) ax ay (floorL l).length by simp [sbV, hi])
    have HIA := hide (isIn_iff.1 hi)
    have HFP := hide (floor_pok HIA.out.2.1)
    have hfl := floorL_le (roomB_fine HIA.out.2.1).1 (by have := (roomB_fine HIA.out.2.1).2; omega)
    go_enter Try.func8, Try.ntmps8
    go_wp2_with (first | (go_at_call 23; refine (IsIn_any _ _ _ _ _ _ (hp.ext (by (repeat (first | exact Ext.refl _ | assumption | apply Ext.alloc | apply Ext.drew | apply Ext.drewN | (refine Ext.trans ?_ (by assumption)))))) hn).mono ?_; rw [hi]; rintro e wa ⟨rfl, hb⟩; have hcc := HB.out wa (by (repeat (first | exact Ext.refl _ | assumption | apply Ext.alloc | apply Ext.drew | apply Ext.drewN | (refine Ext.trans ?_ (by assumption)))))) | (go_at_call 24; have hcd := HB.out (wa.alloc (.cells #[] 28)) (by (repeat (first | exact Ext.refl _ | assumption | apply Ext.alloc | apply Ext.drew | apply Ext.drewN | (refine Ext.trans ?_ (by assumption))))); refine (floor_any _ _ _ _ (hp.ext (by (repeat (first | exact Ext.refl _ | assumption | apply Ext.alloc | apply Ext.drew | apply Ext.drewN | (refine Ext.trans ?_ (by assumption)))))) HIA.out.2.1).mono ?_; rintro e wf ⟨AF, cf, rfl, hof, hbf⟩))
    have hxa : Ext ((w.alloc (.cells #[.slice A l.length c] 26)).alloc (.cells #[.int .i64 ax, .int .i64 ay] 28)) wf := by (repeat (first | exact Ext.refl _ | assumption | apply Ext.alloc | apply Ext.drew | apply Ext.drewN | (refine Ext.trans ?_ (by assumption))))
    have hsa : (wa.alloc (.cells #[] 28)).heap.size = wa.heap.size + 1 := by simp
    have hrf : Pts wf (wa.heap.size + 1) wf.heap.size AF (floorL l) := by have h := hof.pts; rw [hsa] at h; exact h
    have hst : wf.ownsRow (w.heap.size + 1 + 1) 28 2 (.slice (some ⟨wa.heap.size, 0, none⟩) 0 0) 0 (flat (sbL l (floorL l) ax ay 0)) := ownsRow_ext (w := wa.alloc (.cells #[] 28)) ⟨rfl, .inr ⟨wa.heap.size, 0, #[], rfl, by have := hb.size; simpa using this, heap_alloc_new wa _, Nat.le_refl _, by unfold maxLen; omega, rfl, rfl⟩⟩ hbf
    clear hcc hi hof hcd hsa hbf
    generalize floorL l = F at *
    go_loopw [5, 16] (fun out i wr => ∃ (k : Nat) (o : Value) (g : Nat), k ≤ F.length ∧ i = .int .i64 k ∧ o = out ∧ Ext ((w.alloc (.cells #[.slice A l.length c] 26)).alloc (.cells #[.int .i64 ax, .int .i64 ay] 28)) wr ∧ Pts wr (wa.heap.size + 1) wf.heap.size AF F ∧ wf.heap.size ≤ wr.heap.size ∧ (o.ownBlock = some g ∧ (g < wa.heap.size + 1 ∨ wf.heap.size ≤ g)) ∧ wr.ownsRow (w.heap.size + 1 + 1) 28 2 o (sbL l F ax ay k).length (flat (sbL l F ax ay k))) (fun _ i _ => F.length - (intOf i).toNat)
    case atStart => exact ⟨0, _, wa.heap.size, Nat.zero_le _, rfl, rfl, by (repeat (first | exact Ext.refl _ | assumption | apply Ext.alloc | apply Ext.drew | apply Ext.drewN | (refine Ext.trans ?_ (by assumption)))), hrf, Nat.le_refl _, ⟨rfl, .inl (by omega)⟩, hst⟩
    case round =>
      obtain ⟨k, o, g, hk, rfl, ho, hbl, hpf, hszf, ⟨hog, hgr⟩, hown⟩ := hrel; subst ho
      obtain ⟨wq, rfl⟩ : ∃ wq : World, wq = wr := ⟨_, rfl⟩
      have hcb := HB.out wq hbl
      by_cases hlt : k < F.length
      · have hle := sbL_le l F ax ay k
        have q2 : (k : Int) < (F.length : Int) := by omega
        have hpr : RPts wq AF F := hpf.r hszf
        obtain ⟨b, off, rfl⟩ := hpr.some_ (by omega)
        obtain ⟨hz, hx, hy⟩ := hpr.cell hlt
        have HPK := hide (HFP.out _ (g_mem hlt))
        have HQ : Hid (∀ w', Ext (wq.alloc (.cells #[.int .i64 (gx F k), .int .i64 (gy F k)] 28)) w' → w'.cell? ⟨wq.heap.size, 0, none⟩ = some (.int .i64 (gx F k)) ∧ w'.cell? ⟨wq.heap.size, 1, none⟩ = some (.int .i64 (gy F k)) ∧ wq.heap.size < w'.heap.size) := fun w' hx => by
          and_intros <;> (first | (have hz := hx.size; simp at hz; omega) | ((first | rw [hx.cells _ _ (by first | (simp; done) | (simp; omega))] | rw [hx.frozens _ _ (by first | (simp; done) | (simp; omega))]); (first | (simp [go_sem]; done) | (simp [go_sem, World.cell?_alloc_past]; done) | (simp [go_sem, World.frozen?]; done))))
        cases hbk : seesV l ax ay (gx F k) (gy F k)
        · have HS := hide (show sbL l F ax ay (k + 1) = sbL l F ax ay k by rw [sbL_succ _ _ _ _ hlt, hbk]; rfl)
          go_wp2_with (go_at_call 22; refine (sees_any _ _ _ _ _ _ _ _ (hp.ext (by (repeat (first | exact Ext.refl _ | assumption | apply Ext.alloc | apply Ext.drew | apply Ext.drewN | (refine Ext.trans ?_ (by assumption)))))) HIA.out.2.1 HIA.out.1 HPK.out).mono ?_; rw [hbk]; rintro e w1 ⟨rfl, hb1⟩)
          have hx1 : Ext wq w1 := by (repeat (first | exact Ext.refl _ | assumption | apply Ext.alloc | apply Ext.drew | apply Ext.drewN | (refine Ext.trans ?_ (by assumption))))
          go_roundw
          case rel => exact ⟨k + 1, _, g, by omega, by go_num, rfl, by (repeat (first | exact Ext.refl _ | assumption | apply Ext.alloc | apply Ext.drew | apply Ext.drewN | (refine Ext.trans ?_ (by assumption)))), hpf.ext hx1 hszf, Nat.le_trans hszf hx1.size, ⟨hog, hgr⟩, by rw [HS.out]; exact ownsRow_ext hown hx1⟩
          case measure => simp [intOf]; omega
        · have HS := hide (show sbL l F ax ay (k + 1) = sbL l F ax ay k ++ [(gx F k, gy F k)] by rw [sbL_succ _ _ _ _ hlt, hbk]; rfl)
          go_wp2_with (first | (go_at_call 22; refine (sees_any _ _ _ _ _ _ _ _ (hp.ext (by (repeat (first | exact Ext.refl _ | assumption | apply Ext.alloc | apply Ext.drew | apply Ext.drewN | (refine Ext.trans ?_ (by assumption)))))) HIA.out.2.1 HIA.out.1 HPK.out).mono ?_; rw [hbk]; rintro e w1 ⟨rfl, hb1⟩; have fq := HQ.out w1 (by (repeat (first | exact Ext.refl _ | assumption | apply Ext.alloc | apply Ext.drew | apply Ext.drewN | (refine Ext.trans ?_ (by assumption))))); have hsz1 := (show Ext ((w.alloc (.cells #[.slice A l.length c] 26)).alloc (.cells #[.int .i64 ax, .int .i64 ay] 28)) w1 by (repeat (first | exact Ext.refl _ | assumption | apply Ext.alloc | apply Ext.drew | apply Ext.drewN | (refine Ext.trans ?_ (by assumption))))).size; (simp at hsz1)) | (at_builtin; refine wpList_app _ rfl (.tmp 24) (.tmp 26) _ rfl (w.heap.size + 1 + 1) 28 i0 _ 2 16 Try.underlying24 hI hZ hS hY rfl (by omega) _ _ (flat (sbL l F ax ay k)) (by rfl) (ownsRow_ext hown (by (repeat (first | exact Ext.refl _ | assumption | apply Ext.alloc | apply Ext.drew | apply Ext.drewN | (refine Ext.trans ?_ (by assumption)))))) ⟨w1.heap.size, 0, none⟩ 1 1 [.int .i64 (gx F k), .int .i64 (gy F k)] (by rfl) rfl (news_alloc w1 [.int .i64 (gx F k), .int .i64 (gy F k)] 28) (by simp [Value.oneCell']) (by unfold maxLen; omega) (by omega) (by simp; omega) ?_; intro v' w3 hown3 hg3 hk3))
          have hE1 : Ext wq (w1.alloc (.cells #[.int .i64 (gx F k), .int .i64 (gy F k)] 28)) := by (repeat (first | exact Ext.refl _ | assumption | apply Ext.alloc | apply Ext.drew | apply Ext.drewN | (refine Ext.trans ?_ (by assumption))))
          have hx3 : Ext ((w.alloc (.cells #[.slice A l.length c] 26)).alloc (.cells #[.int .i64 ax, .int .i64 ay] 28)) w3 := ext_grown (hbl.trans hE1) hg3 (fun q hq => by have := (hown.lt q hq).1; simpa using this)
          have hsE := hE1.size
          have hs3 := hg3.size
          rw [hog] at hg3 hk3
          have hpf3 := (hpf.ext hE1 hszf).grown hg3 (by omega) (Nat.le_trans hszf hsE)
          have hog3 : ∃ g', v'.ownBlock = some g' ∧ (g' < wa.heap.size + 1 ∨ wf.heap.size ≤ g') := by
            rcases hk3 with h | h
            · exact ⟨g, h, hgr⟩
            · exact ⟨_, h, .inr (Nat.le_trans hszf hsE)⟩
          obtain ⟨g', hog', hgr'⟩ := hog3
          clear hown hg3 hk3 hx hy hpr
          go_wp2
          go_roundw
          case rel => exact ⟨k + 1, _, g', by omega, by go_num, rfl, hx3, hpf3, by omega, ⟨hog', hgr'⟩, by rw [HS.out, flat_snoc, List.length_append]; exact hown3⟩
          case measure => simp [intOf]; omega
      · have e : k = F.length := by omega
        have q2 : ¬ (k : Int) < (F.length : Int) := by omega
        have E := hide e
        clear e
        obtain ⟨A', c', rfl⟩ := ownsRow_slice hown
        go_wp2
        go_ret
        rw [E.out] at hown
        exact ⟨A', c', by rw [HV.out, E.out]; rfl, by rw [HV.out]; exact (OwnS.of_own hown).2.more (by omega) (Nat.le_refl _), by (repeat (first | exact Ext.refl _ | assumption | apply Ext.alloc | apply Ext.drew | apply Ext.drewN | (refine Ext.trans ?_ (by assumption))))⟩

end Go.Proofs.Ytjccilpjaaiicaa
