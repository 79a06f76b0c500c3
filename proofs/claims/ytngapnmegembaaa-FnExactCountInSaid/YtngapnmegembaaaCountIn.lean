/-
  Contracts: CountIn.
-/
import Derived.Test.YtngapnmegembaaaPlace
namespace Go.Proofs.Ytngapnmegembaaa
open Go.RowKit

/-- how many of the first k points of m are in l -/
def cntTo (l m : List (Int × Int)) : Nat → Int
  | 0 => 0
  | k + 1 => if isInV l (gx m k) (gy m k) = true then cntTo l m k + 1 else cntTo l m k
theorem cntTo_succ (l m : List (Int × Int)) (k : Nat) : cntTo l m (k + 1) = if isInV l (gx m k) (gy m k) = true then cntTo l m k + 1 else cntTo l m k := rfl
theorem cntTo_bd (l m : List (Int × Int)) : ∀ k, 0 ≤ cntTo l m k ∧ cntTo l m k ≤ (k : Int)
  | 0 => by simp [cntTo]
  | k + 1 => by
    have := cntTo_bd l m k
    rw [cntTo_succ]
    split <;> omega
/-- CountIn, as both texts give it -/
def countInV (l m : List (Int × Int)) : Int := cntTo l m m.length
theorem isIn_room {l : List (Int × Int)} (h : roomB l = false) (px py : Int) : isInV l px py = false := by
  unfold isInV placeInV
  rw [h]
  split <;> rfl
theorem cntTo_no {l : List (Int × Int)} (h : roomB l = false) (m : List (Int × Int)) : ∀ k, cntTo l m k = 0
  | 0 => rfl
  | k + 1 => by rw [cntTo_succ, isIn_room h, if_neg (by decide)]; exact cntTo_no h m k
theorem isIn_pok {l : List (Int × Int)} {px py : Int} (h : pok px py = false) : isInV l px py = false := by
  unfold isInV placeInV
  rw [h]
  rfl
theorem isIn_place {l : List (Int × Int)} {px py : Int} (hr : roomB l = true) (h : pok px py = true) : isInV l px py = (placeV l px py != 0) := by
  unfold isInV placeInV
  rw [if_pos h, if_pos hr]

set_option maxRecDepth 100000 in
set_option maxHeartbeats 1600000 in
theorem CountIn_any (A : Option Addr) (l : List (Int × Int)) (c : Nat) (B : Option Addr) (m : List (Int × Int)) (d : Nat) (w : World) (hp : RPts w A l) (hq : RPts w B m) (hn : l.length ≤ 1048576) (hn' : m.length ≤ 1048576) :
    Calls Try.prog 57 #[.agg #[.slice A l.length c], .slice B m.length d] w fun e w' => e = .returned (.int .i64 (countInV l m)) ∧ Ext w w' := by
  have HB : Hid (∀ w', Ext (w.alloc (.cells #[.slice A l.length c] 29)) w' → w'.cell? ⟨w.heap.size, 0, none⟩ = some (.slice A l.length c) ∧ w.heap.size < w'.heap.size) := fun w' hx => by
    and_intros <;> (first | (have hz := hx.size; simp at hz; omega) | ((first | rw [hx.cells _ _ (by first | (simp; done) | (simp; omega))] | rw [hx.frozens _ _ (by first | (simp; done) | (simp; omega))]); (first | (simp [go_sem]; done) | (simp [go_sem, World.cell?_alloc_past]; done) | (simp [go_sem, World.frozen?]; done))))
  cases hr : roomB l
  · have HV := hide (show countInV l m = 0 from cntTo_no hr m m.length)
    go_enter Try.func57, Try.ntmps57
    go_wp2_with ((go_at_call 24; refine (RoomOk_any _ _ _ _ (hp.ext (by (repeat (first | exact Ext.refl _ | assumption | apply Ext.alloc | apply Ext.drew | apply Ext.drewN | (refine Ext.trans ?_ (by assumption)))))) hn).mono ?_; rintro e w1 ⟨rfl, hb⟩; have hcc := HB.out w1 (by (repeat (first | exact Ext.refl _ | assumption | apply Ext.alloc | apply Ext.drew | apply Ext.drewN | (refine Ext.trans ?_ (by assumption)))))))
    go_ret
    exact ⟨ret_int (by rw [HV.out]), by (repeat (first | exact Ext.refl _ | assumption | apply Ext.alloc | apply Ext.drew | apply Ext.drewN | (refine Ext.trans ?_ (by assumption))))⟩
  · have HP := hide (fun (x y : Int) (h : pok x y = true) => isIn_place hr h)
    go_enter Try.func57, Try.ntmps57
    go_wp2_with ((go_at_call 24; refine (RoomOk_any _ _ _ _ (hp.ext (by (repeat (first | exact Ext.refl _ | assumption | apply Ext.alloc | apply Ext.drew | apply Ext.drewN | (refine Ext.trans ?_ (by assumption)))))) hn).mono ?_; rintro e w1 ⟨rfl, hb⟩; have hcc := HB.out w1 (by (repeat (first | exact Ext.refl _ | assumption | apply Ext.alloc | apply Ext.drew | apply Ext.drewN | (refine Ext.trans ?_ (by assumption)))))))
    clear hcc hr
    obtain ⟨wa, rfl⟩ : ∃ wa : World, wa = w1 := ⟨_, rfl⟩
    go_wp2
    go_loopw [5, 13] (fun s i wr => ∃ k : Nat, k ≤ m.length ∧ i = .int .i64 k ∧ s = .int .i64 (cntTo l m k) ∧ Ext wa wr) (fun _ i _ => m.length - (intOf i).toNat)
    case atStart => exact ⟨0, Nat.zero_le _, rfl, rfl, Ext.refl _⟩
    case round =>
      obtain ⟨k, hk, rfl, rfl, hbl⟩ := hrel
      obtain ⟨wq, rfl⟩ : ∃ wq : World, wq = wr := ⟨_, rfl⟩
      have fb := HB.out wq (by (repeat (first | exact Ext.refl _ | assumption | apply Ext.alloc | apply Ext.drew | apply Ext.drewN | (refine Ext.trans ?_ (by assumption)))))
      have hcb := cntTo_bd l m k
      by_cases hlt : k < m.length
      · have hqr : RPts wq B m := hq.ext (by (repeat (first | exact Ext.refl _ | assumption | apply Ext.alloc | apply Ext.drew | apply Ext.drewN | (refine Ext.trans ?_ (by assumption)))))
        obtain ⟨b, off, rfl⟩ := hqr.some_ (by omega)
        obtain ⟨hz, hx0, hy0⟩ := hqr.cell hlt
        have HQ : Hid (∀ w', Ext (wq.alloc (.cells #[.int .i64 (gx m k), .int .i64 (gy m k)] 38)) w' → w'.cell? ⟨wq.heap.size, 0, none⟩ = some (.int .i64 (gx m k)) ∧ w'.cell? ⟨wq.heap.size, 1, none⟩ = some (.int .i64 (gy m k)) ∧ wq.heap.size < w'.heap.size) := fun w' hx => by
          and_intros <;> (first | (have hz := hx.size; simp at hz; omega) | ((first | rw [hx.cells _ _ (by first | (simp; done) | (simp; omega))] | rw [hx.frozens _ _ (by first | (simp; done) | (simp; omega))]); (first | (simp [go_sem]; done) | (simp [go_sem, World.cell?_alloc_past]; done) | (simp [go_sem, World.frozen?]; done))))
        cases ho : pok (gx m k) (gy m k)
        · have HS := hide (show cntTo l m (k + 1) = cntTo l m k by rw [cntTo_succ, isIn_pok ho]; rfl)
          go_wp2_with (go_at_call 88; refine (pok_any _ _ _).mono ?_; rintro e w1 ⟨rfl, hb1⟩)
          go_roundw
          case rel => exact ⟨k + 1, by omega, by go_num, by rw [HS.out], by (repeat (first | exact Ext.refl _ | assumption | apply Ext.alloc | apply Ext.drew | apply Ext.drewN | (refine Ext.trans ?_ (by assumption))))⟩
          case measure => simp [intOf]; omega
        · have hpl := HP.out _ _ ho
          cases hv : (placeV l (gx m k) (gy m k) != 0)
          · have HS := hide (show cntTo l m (k + 1) = cntTo l m k by rw [cntTo_succ, hpl, hv]; rfl)
            clear hpl
            go_wp2_with (first | (go_at_call 88; refine (pok_any _ _ _).mono ?_; rintro e w1 ⟨rfl, hb1⟩; have g1 := HB.out w1 (by (repeat (first | exact Ext.refl _ | assumption | apply Ext.alloc | apply Ext.drew | apply Ext.drewN | (refine Ext.trans ?_ (by assumption))))); have g2 := HQ.out w1 (by (repeat (first | exact Ext.refl _ | assumption | apply Ext.alloc | apply Ext.drew | apply Ext.drewN | (refine Ext.trans ?_ (by assumption)))))) | (go_at_call 89; refine (place_any _ _ _ _ _ _ (hp.ext (by (repeat (first | exact Ext.refl _ | assumption | apply Ext.alloc | apply Ext.drew | apply Ext.drewN | (refine Ext.trans ?_ (by assumption)))))) hn).mono ?_; rintro e w2 ⟨rfl, hb2⟩))
            go_roundw
            case rel => exact ⟨k + 1, by omega, by go_num, by rw [HS.out], by (repeat (first | exact Ext.refl _ | assumption | apply Ext.alloc | apply Ext.drew | apply Ext.drewN | (refine Ext.trans ?_ (by assumption))))⟩
            case measure => simp [intOf]; omega
          · have HS := hide (show cntTo l m (k + 1) = cntTo l m k + 1 by rw [cntTo_succ, hpl, hv]; rfl)
            clear hpl
            go_wp2_with (first | (go_at_call 88; refine (pok_any _ _ _).mono ?_; rintro e w1 ⟨rfl, hb1⟩; have g1 := HB.out w1 (by (repeat (first | exact Ext.refl _ | assumption | apply Ext.alloc | apply Ext.drew | apply Ext.drewN | (refine Ext.trans ?_ (by assumption))))); have g2 := HQ.out w1 (by (repeat (first | exact Ext.refl _ | assumption | apply Ext.alloc | apply Ext.drew | apply Ext.drewN | (refine Ext.trans ?_ (by assumption)))))) | (go_at_call 89; refine (place_any _ _ _ _ _ _ (hp.ext (by (repeat (first | exact Ext.refl _ | assumption | apply Ext.alloc | apply Ext.drew | apply Ext.drewN | (refine Ext.trans ?_ (by assumption)))))) hn).mono ?_; rintro e w2 ⟨rfl, hb2⟩))
            go_roundw
            case rel => exact ⟨k + 1, by omega, by go_num, by rw [HS.out], by (repeat (first | exact Ext.refl _ | assumption | apply Ext.alloc | apply Ext.drew | apply Ext.drewN | (refine Ext.trans ?_ (by assumption))))⟩
            case measure => simp [intOf]; omega
      · have e : k = m.length := by omega
        have E := hide e
        clear e
        go_wp2
        go_ret
        exact ⟨ret_int (by rw [E.out]; rfl), by (repeat (first | exact Ext.refl _ | assumption | apply Ext.alloc | apply Ext.drew | apply Ext.drewN | (refine Ext.trans ?_ (by assumption))))⟩

set_option maxRecDepth 100000 in
set_option maxHeartbeats 1600000 in
theorem sCountIn_any (A : Option Addr) (l : List (Int × Int)) (c : Nat) (B : Option Addr) (m : List (Int × Int)) (d : Nat) (w : World) (hp : RPts w A l) (hq : RPts w B m) (hn : l.length ≤ 1048576) (hn' : m.length ≤ 1048576) :
    Calls Try.prog 55 #[.agg #[.slice A l.length c], .slice B m.length d] w fun e w' => e = .returned (.int .i64 (countInV l m)) ∧ Ext w w' := by
  have HB : Hid (∀ w', Ext (w.alloc (.cells #[.slice A l.length c] 29)) w' → w'.cell? ⟨w.heap.size, 0, none⟩ = some (.slice A l.length c) ∧ w.heap.size < w'.heap.size) := fun w' hx => by
    and_intros <;> (first | (have hz := hx.size; simp at hz; omega) | ((first | rw [hx.cells _ _ (by first | (simp; done) | (simp; omega))] | rw [hx.frozens _ _ (by first | (simp; done) | (simp; omega))]); (first | (simp [go_sem]; done) | (simp [go_sem, World.cell?_alloc_past]; done) | (simp [go_sem, World.frozen?]; done))))
  go_enter Try.func55, Try.ntmps55
  go_wp2
  go_loopw [5, 6] (fun s i wr => ∃ k : Nat, k ≤ m.length ∧ i = .int .i64 k ∧ s = .int .i64 (cntTo l m k) ∧ Ext (w.alloc (.cells #[.slice A l.length c] 29)) wr) (fun _ i _ => m.length - (intOf i).toNat)
  case atStart => exact ⟨0, Nat.zero_le _, rfl, rfl, Ext.refl _⟩
  case round =>
    obtain ⟨k, hk, rfl, rfl, hbl⟩ := hrel
    obtain ⟨wq, rfl⟩ : ∃ wq : World, wq = wr := ⟨_, rfl⟩
    have fb := HB.out wq (by (repeat (first | exact Ext.refl _ | assumption | apply Ext.alloc | apply Ext.drew | apply Ext.drewN | (refine Ext.trans ?_ (by assumption)))))
    have hcb := cntTo_bd l m k
    by_cases hlt : k < m.length
    · have hqr : RPts wq B m := hq.ext (by (repeat (first | exact Ext.refl _ | assumption | apply Ext.alloc | apply Ext.drew | apply Ext.drewN | (refine Ext.trans ?_ (by assumption)))))
      obtain ⟨b, off, rfl⟩ := hqr.some_ (by omega)
      obtain ⟨hz, hx0, hy0⟩ := hqr.cell hlt
      have i1 : (0 : Int) ≤ (k : Int) := by omega
      have i2 : (k : Int) < (m.length : Int) := by omega
      cases ho : isInV l (gx m k) (gy m k)
      · have HS := hide (show cntTo l m (k + 1) = cntTo l m k by rw [cntTo_succ, ho]; rfl)
        go_wp2
        refine wp_flow (by kernel_rfl) (by kernel_rfl) (fun u => ⟨#[_, _, _, _, _, _, _, _, _, _, _, _, _, u 0, u 1, u 2, u 3, u 4, u 5, _, _, _], _⟩) (fun i => List.getD [_, _, _, _, _, _] i undef) [is ?v32_0, is ?v32_1, is ?v32_2, is ?v32_3, is ?v32_4, is ?v32_5] (fun w' => w'.cell? ⟨w.heap.size, 0, none⟩ = some (.slice A l.length c) ∧ w.heap.size < w'.heap.size ∧ w'.cell? ⟨b, off + k * 2, none⟩ = some (.int .i64 (gx m (k))) ∧ w'.cell? ⟨b, off + k * 2 + 1, none⟩ = some (.int .i64 (gy m (k)))) _ rfl ?hC32 ?hs32 ?hV32 ?fin32
        case hC32 => exact fun w' hx => (by have hq : Ext _ w' := hx; have hf0 := HB.out w' (by (repeat (first | exact Ext.refl _ | assumption | apply Ext.alloc | apply Ext.drew | apply Ext.drewN | (refine Ext.trans ?_ (by assumption))))); and_intros <;> first | exact hf0 | exact hf0.1 | exact hf0.2.1 | exact hf0.2.2.1 | exact hf0.2.2.2.1 | exact hf0.2.2.2.2.1 | exact hf0.2.2.2.2.2.1 | exact hf0.2.2.2.2.2.2.1 | exact hf0.2.2.2.2.2.2.2.1 | exact hf0.2.2.2.2.2.2.2.2.1 | exact hf0.2.2.2.2.2.2.2.2.2.1 | exact hf0.2.2.2.2.2.2.2.2.2.2.1 | exact hf0.2.2.2.2.2.2.2.2.2.2.2.1 | exact hf0.2.2.2.2.2.2.2.2.2.2.2.2.1 | exact hf0.2.2.2.2.2.2.2.2.2.2.2.2.2.1 | exact hf0.2 | exact hf0.2.2 | exact hf0.2.2.2 | exact hf0.2.2.2.2 | exact hf0.2.2.2.2.2 | exact hf0.2.2.2.2.2.2 | exact hf0.2.2.2.2.2.2.2 | exact hf0.2.2.2.2.2.2.2.2 | exact hf0.2.2.2.2.2.2.2.2.2 | exact hf0.2.2.2.2.2.2.2.2.2.2 | exact hf0.2.2.2.2.2.2.2.2.2.2.2 | exact hf0.2.2.2.2.2.2.2.2.2.2.2.2 | exact hf0.2.2.2.2.2.2.2.2.2.2.2.2.2 | exact ((hqr.ext hq).cell hlt).2.1 | exact ((hqr.ext hq).cell hlt).2.2)
        case hs32 =>
          repeat' (first
            | exact FSteps.nil
            | refine FSteps.cons ?_ ?_
            | (refine FStep.off_ _ _ _ rfl rfl ?_ (fun _ => rfl) ?_; (focus (intro u w hd; simp [vOf, is, Region.binds] at hd; simp [hd])); (intro w'; exact rfl); done)
            | ((first
                | refine FStep.plain rfl ?_
                | (refine FStep.on_ _ _ _ rfl rfl ?_ ?_; (focus (intro u w hd; simp [vOf, is, Region.binds] at hd; simp [hd]))))
               intro u w hW hC hd K hK
               (try simp [vOf, is, Region.binds] at hd)
               simp only [upd, Nat.reduceEqDiff, if_true, if_false] at hK
               (try simp only [hd] at hK)
               go_simp
               (first
                 | (refine hK _ _ ?_ ?_; (first | exact rfl); (repeat (first | exact Ext.refl _ | assumption | apply Ext.alloc | apply Ext.drew | apply Ext.drewN | (refine Ext.trans ?_ (by assumption)))))
                 | (go_at_call 46; refine (sIsIn_any _ _ _ _ _ _ (hp.ext (by (repeat (first | exact Ext.refl _ | assumption | apply Ext.alloc | apply Ext.drew | apply Ext.drewN | (refine Ext.trans ?_ (by assumption)))))) hn).mono ?_; rintro e w1 ⟨rfl, hb⟩; (try go_simp); refine hK _ _ ?_ ?_; (first | exact rfl); (repeat (first | exact Ext.refl _ | assumption | apply Ext.alloc | apply Ext.drew | apply Ext.drewN | (refine Ext.trans ?_ (by assumption))))))))
        case hV32 => (simp only [List.forall_mem_cons]; simp [stable_is])
        case fin32 =>
          intro u w2 hW2 hC2 hd
          simp only [AllV, is] at hd
          simp only [hd]
          clear hd
          clear hC2 fb hx0 hy0
          go_wp2
          go_roundw
          case rel => exact ⟨k + 1, by omega, by go_num, by rw [HS.out], by (repeat (first | exact Ext.refl _ | assumption | apply Ext.alloc | apply Ext.drew | apply Ext.drewN | (refine Ext.trans ?_ (by assumption))))⟩
          case measure => simp [intOf]; omega
      · have HS := hide (show cntTo l m (k + 1) = cntTo l m k + 1 by rw [cntTo_succ, ho]; rfl)
        go_wp2
        refine wp_flow (by kernel_rfl) (by kernel_rfl) (fun u => ⟨#[_, _, _, _, _, _, _, _, _, _, _, _, _, u 0, u 1, u 2, u 3, u 4, u 5, _, _, _], _⟩) (fun i => List.getD [_, _, _, _, _, _] i undef) [is ?v33_0, is ?v33_1, is ?v33_2, is ?v33_3, is ?v33_4, is ?v33_5] (fun w' => w'.cell? ⟨w.heap.size, 0, none⟩ = some (.slice A l.length c) ∧ w.heap.size < w'.heap.size ∧ w'.cell? ⟨b, off + k * 2, none⟩ = some (.int .i64 (gx m (k))) ∧ w'.cell? ⟨b, off + k * 2 + 1, none⟩ = some (.int .i64 (gy m (k)))) _ rfl ?hC33 ?hs33 ?hV33 ?fin33
        case hC33 => exact fun w' hx => (by have hq : Ext _ w' := hx; have hf0 := HB.out w' (by (repeat (first | exact Ext.refl _ | assumption | apply Ext.alloc | apply Ext.drew | apply Ext.drewN | (refine Ext.trans ?_ (by assumption))))); and_intros <;> first | exact hf0 | exact hf0.1 | exact hf0.2.1 | exact hf0.2.2.1 | exact hf0.2.2.2.1 | exact hf0.2.2.2.2.1 | exact hf0.2.2.2.2.2.1 | exact hf0.2.2.2.2.2.2.1 | exact hf0.2.2.2.2.2.2.2.1 | exact hf0.2.2.2.2.2.2.2.2.1 | exact hf0.2.2.2.2.2.2.2.2.2.1 | exact hf0.2.2.2.2.2.2.2.2.2.2.1 | exact hf0.2.2.2.2.2.2.2.2.2.2.2.1 | exact hf0.2.2.2.2.2.2.2.2.2.2.2.2.1 | exact hf0.2.2.2.2.2.2.2.2.2.2.2.2.2.1 | exact hf0.2 | exact hf0.2.2 | exact hf0.2.2.2 | exact hf0.2.2.2.2 | exact hf0.2.2.2.2.2 | exact hf0.2.2.2.2.2.2 | exact hf0.2.2.2.2.2.2.2 | exact hf0.2.2.2.2.2.2.2.2 | exact hf0.2.2.2.2.2.2.2.2.2 | exact hf0.2.2.2.2.2.2.2.2.2.2 | exact hf0.2.2.2.2.2.2.2.2.2.2.2 | exact hf0.2.2.2.2.2.2.2.2.2.2.2.2 | exact hf0.2.2.2.2.2.2.2.2.2.2.2.2.2 | exact ((hqr.ext hq).cell hlt).2.1 | exact ((hqr.ext hq).cell hlt).2.2)
        case hs33 =>
          repeat' (first
            | exact FSteps.nil
            | refine FSteps.cons ?_ ?_
            | (refine FStep.off_ _ _ _ rfl rfl ?_ (fun _ => rfl) ?_; (focus (intro u w hd; simp [vOf, is, Region.binds] at hd; simp [hd])); (intro w'; exact rfl); done)
            | ((first
                | refine FStep.plain rfl ?_
                | (refine FStep.on_ _ _ _ rfl rfl ?_ ?_; (focus (intro u w hd; simp [vOf, is, Region.binds] at hd; simp [hd]))))
               intro u w hW hC hd K hK
               (try simp [vOf, is, Region.binds] at hd)
               simp only [upd, Nat.reduceEqDiff, if_true, if_false] at hK
               (try simp only [hd] at hK)
               go_simp
               (first
                 | (refine hK _ _ ?_ ?_; (first | exact rfl); (repeat (first | exact Ext.refl _ | assumption | apply Ext.alloc | apply Ext.drew | apply Ext.drewN | (refine Ext.trans ?_ (by assumption)))))
                 | (go_at_call 46; refine (sIsIn_any _ _ _ _ _ _ (hp.ext (by (repeat (first | exact Ext.refl _ | assumption | apply Ext.alloc | apply Ext.drew | apply Ext.drewN | (refine Ext.trans ?_ (by assumption)))))) hn).mono ?_; rintro e w1 ⟨rfl, hb⟩; (try go_simp); refine hK _ _ ?_ ?_; (first | exact rfl); (repeat (first | exact Ext.refl _ | assumption | apply Ext.alloc | apply Ext.drew | apply Ext.drewN | (refine Ext.trans ?_ (by assumption))))))))
        case hV33 => (simp only [List.forall_mem_cons]; simp [stable_is])
        case fin33 =>
          intro u w2 hW2 hC2 hd
          simp only [AllV, is] at hd
          simp only [hd]
          clear hd
          clear hC2 fb hx0 hy0
          go_wp2
          go_roundw
          case rel => exact ⟨k + 1, by omega, by go_num, by rw [HS.out], by (repeat (first | exact Ext.refl _ | assumption | apply Ext.alloc | apply Ext.drew | apply Ext.drewN | (refine Ext.trans ?_ (by assumption))))⟩
          case measure => simp [intOf]; omega
    · have e : k = m.length := by omega
      have E := hide e
      clear e
      go_wp2
      go_ret
      exact ⟨ret_int (by rw [E.out]; rfl), by (repeat (first | exact Ext.refl _ | assumption | apply Ext.alloc | apply Ext.drew | apply Ext.drewN | (refine Ext.trans ?_ (by assumption))))⟩

end Go.Proofs.Ytngapnmegembaaa
