/-
  Contracts: whether a corner or a floor point of one room lies inside another (the program's anyInside, the reference's l06Free).
-/
import Derived.Test.YtanagdlikoinaaaFloorX
import Derived.Test.YtanagdlikoinaaaSFloor
import Derived.Test.YtanagdlikoinaaaJ5
import Derived.Test.YtanagdlikoinaaaFloorM
namespace Go.Proofs.Ytanagdlikoinaaa
open Go.RowKit

/-- some point of ps lies inside l -/
def insB (l ps : List (Int × Int)) : Bool := ps.any fun p => placeV l p.1 p.2 == 2
theorem insB_at {l ps : List (Int × Int)} {k : Nat} (hk : k < ps.length) (h : (placeV l (gx ps k) (gy ps k) == 2) = true) : insB l ps = true := List.any_eq_true.2 ⟨_, g_mem hk, h⟩
theorem insB_no {l ps : List (Int × Int)} (h : ∀ k, k < ps.length → (placeV l (gx ps k) (gy ps k) == 2) = false) : insB l ps = false := by
  unfold insB
  rw [List.any_eq_false]
  intro p hp
  obtain ⟨k, hk, e1, e2⟩ := mem_g hp
  have := h k hk
  rw [e1, e2] at this
  rw [this]
  decide

/-- a room's corners are points of its floor -/
theorem corner_floor {l : List (Int × Int)} (hr : roomB l = true) : ∀ p, p ∈ l → p ∈ floorL l := by
  obtain ⟨hf, h3⟩ := roomB_fine hr
  intro p hp
  obtain ⟨k, hk, e1, e2⟩ := mem_g hp
  have hb := box_in (l := l) l.length k hk
  have ho : onE l (gx l k) (gy l k) k = true := by
    have w1 := within_more (within_of_pok (hf.pok hk)) (N := 1000000) (by omega)
    have w2 := within_more (within_of_pok (hf.pok (show (k + 1) % l.length < l.length from Nat.mod_lt _ (by omega)))) (N := 1000000) (by omega)
    exact (onW_iff (a := (gx l k, gy l k)) (b := (gx l ((k + 1) % l.length), gy l ((k + 1) % l.length))) (c := (gx l k, gy l k)) w1 w2 w1).2 (onz_start _ _)
  rw [floor_mem, ← e1, ← e2, placeV_on hk ho]
  exact ⟨by omega, by omega, rfl⟩
theorem insB_corners {a b : List (Int × Int)} (hr : roomB a = true) : insB b (floorL a ++ a) = insB b (floorL a) := by
  unfold insB
  rw [List.any_append]
  cases h : (floorL a).any (fun p => placeV b p.1 p.2 == 2)
  · rw [Bool.false_or, List.any_eq_false]
    intro p hp
    exact List.any_eq_false.1 h p (corner_floor hr p hp)
  · rfl


set_option maxRecDepth 100000 in
set_option maxHeartbeats 3200000 in
theorem anyInside_any (A B : Option Addr) (l r : List (Int × Int)) (c d : Nat) (w : World) (hp : RPts w A l) (hq : RPts w B r) (hr : roomB l = true) (hn : r.length ≤ 1048576) :
    Calls Try.prog 43 #[.agg #[.slice A l.length c], .agg #[.slice B r.length d]] w fun e w' => e = .returned (.bool (insB r (floorL l))) ∧ Ext w w' := by
  rw [← insB_corners hr]
  obtain ⟨i0, hI, hZ, hS, hY⟩ := info_parts info_ipt
  have h10 := (roomB_fine hr).1.2
  have h3 := (roomB_fine hr).2
  have hfl := floorL_le (roomB_fine hr).1 (by omega)
  obtain ⟨b, off, rfl⟩ := hp.some_ (by omega)
  have HR := hide hr
  clear hr
  have HB : Hid (∀ w', Ext ((w.alloc (.cells #[.slice (some ⟨b, off, none⟩) l.length c] 26)).alloc (.cells #[.slice B r.length d] 26)) w' → w'.cell? ⟨w.heap.size, 0, none⟩ = some (.slice (some ⟨b, off, none⟩) l.length c) ∧ w.heap.size < w'.heap.size ∧ w'.cell? ⟨w.heap.size + 1, 0, none⟩ = some (.slice B r.length d) ∧ w.heap.size + 1 < w'.heap.size) := fun w' hx => by
    and_intros <;> (first | (have hz := hx.size; simp at hz; omega) | ((first | rw [hx.cells _ _ (by first | (simp; done) | (simp; omega))] | rw [hx.frozens _ _ (by first | (simp; done) | (simp; omega))]); (first | (simp [go_sem]; done) | (simp [go_sem, World.cell?_alloc_past]; done) | (simp [go_sem, World.frozen?]; done))))
  go_enter Try.func43, Try.ntmps43
  go_wp2
  have hcells : ∀ w', Below (w.heap.size + 1 + 1) ((w.alloc (.cells #[.slice (some ⟨b, off, none⟩) l.length c] 26)).alloc (.cells #[.slice B r.length d] 26)) w' → w'.cell? ⟨w.heap.size, 0, none⟩ = some (.slice (some ⟨b, off, none⟩) l.length c) := fun w' hx => (bcell hx _ _ (by omega)).trans (HB.out _ (Ext.refl _)).1
  have hpts : ∀ w', Below (w.heap.size + 1 + 1) ((w.alloc (.cells #[.slice (some ⟨b, off, none⟩) l.length c] 26)).alloc (.cells #[.slice B r.length d] 26)) w' → RPts w' (some ⟨b, off, none⟩) l := fun w' hx => (Pts.below (Pts.ext hp (show Ext w ((w.alloc (.cells #[.slice (some ⟨b, off, none⟩) l.length c] 26)).alloc (.cells #[.slice B r.length d] 26)) by (repeat (first | exact Ext.refl _ | assumption | apply Ext.alloc | apply Ext.drew | apply Ext.drewN | (refine Ext.trans ?_ (by assumption))))) (Nat.le_refl _)) hx (by omega)).r (Nat.le_trans (by simp; omega) (Below.size hx))
  refine wp_flowX 4 (by kernel_rfl) (by kernel_rfl) (fun u => ⟨#[_, _, _, _, _, _, _, u 0, u 1, u 2, u 3, u 4, u 5, u 6, _, _, _, _, _, _, _, _, _], _⟩) (fun i => List.getD [undef, undef, undef, undef, undef, undef, undef] i undef)
    (vOf [is (.agg #[.slice (some ⟨b, off, none⟩) l.length c]), (fun v w' => w'.ownsRow (w.heap.size + 1 + 1) 38 2 v (floorL l).length (flat (floorL l))), is (.pointer (some ⟨w.heap.size, 0, none⟩)), is (.slice (some ⟨b, off, none⟩) l.length c), (fun v w' => w'.ownsRow (w.heap.size + 1 + 1) 38 2 v ((floorL l).length + l.length) (flat (floorL l) ++ flat l)), is (.int .i64 (((floorL l).length + l.length : Nat) : Int)), is (.int .i64 0)])
    (fun w' => w'.cell? ⟨w.heap.size, 0, none⟩ = some (.slice (some ⟨b, off, none⟩) l.length c)) _ ?hC ?hV ?hV2 ?hs ?fin
  case hC => exact fun w' hx => hcells w' (by simpa using hx)
  case hV =>
    refine vOf_stable ?_
    intro p hp
    simp only [List.mem_cons, List.not_mem_nil, or_false] at hp
    rcases hp with rfl | rfl | rfl | rfl | rfl | rfl | rfl
    · exact stable_is _
    · exact fun v w w' h hx => ownsRow_ext h hx
    · exact stable_is _
    · exact stable_is _
    · exact fun v w w' h hx => ownsRow_ext h hx
    · exact stable_is _
    · exact stable_is _
  case hV2 =>
    intro i v w1 w2 hne hd hv _
    match i, hne, hd with
    | 0, _, _ => exact hv
    | 1, _, hd => exact absurd hd (by decide +kernel)
    | 2, _, _ => exact hv
    | 3, _, _ => exact hv
    | 4, hne, _ => exact absurd rfl hne
    | 5, _, _ => exact hv
    | 6, _, _ => exact hv
    | _ + 7, _, _ => exact hv
  case hs =>
    refine XSteps.ext rfl rfl ?_ ?_
    · intro u w1 hW hC hd K hK
      (try simp [vOf, is, Region.binds] at hd)
      simp only [upd, Nat.reduceEqDiff, if_true, if_false] at hK
      (try simp only [hd] at hK)
      go_simp
      refine hK _ _ ?_ ?_
      · exact rfl
      · (repeat (first | exact Ext.refl _ | assumption | apply Ext.alloc | apply Ext.drew | apply Ext.drewN | (refine Ext.trans ?_ (by assumption))))
    refine XSteps.ext rfl rfl ?_ ?_
    · intro u w1 hW hC hd K hK
      (try simp [vOf, is, Region.binds] at hd)
      simp only [upd, Nat.reduceEqDiff, if_true, if_false] at hK
      (try simp only [hd] at hK)
      go_simp
      go_at_call 34
      refine (floor_own _ _ _ _ (hpts _ (by simpa using hW)) HR.out).mono ?_
      rintro e w2 ⟨v, rfl, ho, hb⟩
      (try go_simp)
      refine hK _ _ ?_ ?_
      · exact ownsRow_mono ho (by have := Below.size hW; simpa using this)
      · exact hb
    refine XSteps.ext rfl rfl ?_ ?_
    · intro u w1 hW hC hd K hK
      (try simp [vOf, is, Region.binds] at hd)
      simp only [upd, Nat.reduceEqDiff, if_true, if_false] at hK
      (try simp only [hd] at hK)
      go_simp
      refine hK _ _ ?_ ?_
      · exact rfl
      · (repeat (first | exact Ext.refl _ | assumption | apply Ext.alloc | apply Ext.drew | apply Ext.drewN | (refine Ext.trans ?_ (by assumption))))
    refine XSteps.ext rfl rfl ?_ ?_
    · intro u w1 hW hC hd K hK
      (try simp [vOf, is, Region.binds] at hd)
      simp only [upd, Nat.reduceEqDiff, if_true, if_false] at hK
      (try simp only [hd] at hK)
      go_simp
      refine hK _ _ ?_ ?_
      · exact rfl
      · (repeat (first | exact Ext.refl _ | assumption | apply Ext.alloc | apply Ext.drew | apply Ext.drewN | (refine Ext.trans ?_ (by assumption))))
    refine XSteps.at_ rfl rfl ?_ ?_
    · intro u w1 hW hC hd K hK
      simp [vOf, is, Region.binds] at hd
      simp only [upd, Nat.reduceEqDiff, if_true, if_false] at hK
      have hsz := Below.size hW
      simp at hsz
      refine oper_app w1 (.tmp 8) (.tmp 10) _ rfl (w.heap.size + 1 + 1) 38 i0 _ 2 16 Try.underlying24 hI hZ hS hY rfl (by omega) (u 1) _ _ rfl hd.1 ⟨b, off, none⟩ l.length c (flat l) (by show u 3 = _; exact hd.2.1) (flat_length l) ?_ (flat_one l) (by unfold maxLen; omega) (by omega) (by omega) ?_
      · have h := seg_take (hpts _ (by simpa using hW)) l.length
        rwa [List.take_length] at h
      · intro v' w' h1 h2
        refine hK _ _ h1 ?_
        exact Below.grown (Below.refl _ _) h2 (by simp; omega) (fun k hk => by have := (hd.1.lt k hk).1; simp; omega)
    refine XSteps.ext rfl rfl ?_ ?_
    · intro u w1 hW hC hd K hK
      (try simp [vOf, is, Region.binds] at hd)
      simp only [upd, Nat.reduceEqDiff, if_true, if_false] at hK
      (try simp only [hd] at hK)
      obtain ⟨A4, c4, h4⟩ := ownsRow_slice hd
      simp only [h4] at hK ⊢
      go_simp
      refine hK _ _ ?_ ?_
      · exact rfl
      · (repeat (first | exact Ext.refl _ | assumption | apply Ext.alloc | apply Ext.drew | apply Ext.drewN | (refine Ext.trans ?_ (by assumption))))
    refine XSteps.ext rfl rfl ?_ XSteps.nil
    · intro u w1 hW hC hd K hK
      (try simp [vOf, is, Region.binds] at hd)
      simp only [upd, Nat.reduceEqDiff, if_true, if_false] at hK
      (try simp only [hd] at hK)
      go_simp
      refine hK _ _ ?_ ?_
      · exact rfl
      · (repeat (first | exact Ext.refl _ | assumption | apply Ext.alloc | apply Ext.drew | apply Ext.drewN | (refine Ext.trans ?_ (by assumption))))
  case fin =>
    intro u w2 hW2 hC2 hv
    have h4 := (hv 4 (by decide +kernel)).resolve_left (by decide +kernel)
    have h5 := (hv 5 (by decide +kernel)).resolve_left (by decide +kernel)
    have h6 := (hv 6 (by decide +kernel)).resolve_left (by decide +kernel)
    obtain ⟨A4, c4, e4⟩ := ownsRow_slice h4
    have h5' : u 5 = .int .i64 (((floorL l).length + l.length : Nat) : Int) := h5
    have h6' : u 6 = .int .i64 0 := h6
    simp only [e4] at h4
    simp only [e4, h5', h6']
    have hx2 : Ext ((w.alloc (.cells #[.slice (some ⟨b, off, none⟩) l.length c] 26)).alloc (.cells #[.slice B r.length d] 26)) w2 := hW2
    obtain ⟨ws, rfl⟩ : ∃ ws : World, ws = w2 := ⟨_, rfl⟩
    rw [← flat_append] at h4
    have hlen : (floorL l).length + l.length = (floorL l ++ l).length := by simp
    rw [hlen] at h4
    have hrw : RPts ws A4 (floorL l ++ l) := (OwnS.of_own h4).2.r (Nat.le_refl _)
    rw [hlen]
    clear hv h4 h5 h6 h5' h6' hC2 hW2 hcells hpts e4 hlen
    have hF : (floorL l ++ l).length ≤ 7000 := by simp; omega
    generalize hFE : floorL l ++ l = F at *
    have HFE := hide hFE
    clear hFE
    go_wp2
    go_loopw [13] (fun i wr => ∃ k : Nat, k ≤ F.length ∧ i = .int .i64 k ∧ Ext ws wr ∧ Hid (∀ j, j < k → (placeV r (gx F j) (gy F j) == 2) = false)) (fun i _ => F.length - (intOf i).toNat)
    case atStart => exact ⟨0, Nat.zero_le _, rfl, Ext.refl _, hide (fun j hj => absurd hj (by omega))⟩
    case round =>
      obtain ⟨k, hk, rfl, hbl, HN⟩ := hrel
      obtain ⟨wq, rfl⟩ : ∃ wq : World, wq = wr := ⟨_, rfl⟩
      have fb := HB.out wq (by (repeat (first | exact Ext.refl _ | assumption | apply Ext.alloc | apply Ext.drew | apply Ext.drewN | (refine Ext.trans ?_ (by assumption)))))
      by_cases hlt : k < F.length
      · have q2 : (k : Int) < (F.length : Int) := by omega
        have hpr := hrw.ext hbl
        obtain ⟨b4, o4, rfl⟩ := hpr.some_ (by omega)
        obtain ⟨hz, hx, hy⟩ := hpr.cell hlt
        have HQ : Hid (∀ w', Ext (wq.alloc (.cells #[.int .i64 (gx F k), .int .i64 (gy F k)] 38)) w' → w'.cell? ⟨wq.heap.size, 0, none⟩ = some (.int .i64 (gx F k)) ∧ w'.cell? ⟨wq.heap.size, 1, none⟩ = some (.int .i64 (gy F k)) ∧ wq.heap.size < w'.heap.size) := fun w' hx => by
          and_intros <;> (first | (have hz := hx.size; simp at hz; omega) | ((first | rw [hx.cells _ _ (by first | (simp; done) | (simp; omega))] | rw [hx.frozens _ _ (by first | (simp; done) | (simp; omega))]); (first | (simp [go_sem]; done) | (simp [go_sem, World.cell?_alloc_past]; done) | (simp [go_sem, World.frozen?]; done))))
        cases hv : (placeV r (gx F k) (gy F k) == 2)
        · have HV := hide hv
          go_wp2_with (go_at_call 40; refine (place_any _ _ _ _ _ _ (hq.ext (by (repeat (first | exact Ext.refl _ | assumption | apply Ext.alloc | apply Ext.drew | apply Ext.drewN | (refine Ext.trans ?_ (by assumption)))))) hn).mono ?_; rintro e w3 ⟨rfl, hb3⟩)
          go_roundw
          case rel => exact ⟨k + 1, by omega, by go_num, by (repeat (first | exact Ext.refl _ | assumption | apply Ext.alloc | apply Ext.drew | apply Ext.drewN | (refine Ext.trans ?_ (by assumption)))), hide (fun j hj => by by_cases e : j = k; (subst e; exact HV.out); exact HN.out j (by omega))⟩
          case measure => simp [intOf]; omega
        · have HV := hide (insB_at hlt hv)
          go_wp2_with (go_at_call 40; refine (place_any _ _ _ _ _ _ (hq.ext (by (repeat (first | exact Ext.refl _ | assumption | apply Ext.alloc | apply Ext.drew | apply Ext.drewN | (refine Ext.trans ?_ (by assumption)))))) hn).mono ?_; rintro e w3 ⟨rfl, hb3⟩)
          go_ret
          exact ⟨ret_bool (by rw [HFE.out, HV.out]), by (repeat (first | exact Ext.refl _ | assumption | apply Ext.alloc | apply Ext.drew | apply Ext.drewN | (refine Ext.trans ?_ (by assumption))))⟩
      · have q2 : ¬ (k : Int) < (F.length : Int) := by omega
        have HV := hide (insB_no (l := r) (ps := F) (fun j hj => HN.out j (by omega)))
        go_wp2
        go_ret
        exact ⟨ret_bool (by rw [HFE.out, HV.out]), by (repeat (first | exact Ext.refl _ | assumption | apply Ext.alloc | apply Ext.drew | apply Ext.drewN | (refine Ext.trans ?_ (by assumption))))⟩

end Go.Proofs.Ytanagdlikoinaaa
