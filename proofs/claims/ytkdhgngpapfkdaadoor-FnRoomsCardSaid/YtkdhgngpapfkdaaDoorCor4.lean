/-
  Contracts: the program's IsCorner and CornerAt, beside rooms.
-/
import Derived.Test.YtkdhgngpapfkdaaDoorCor
namespace Go.Proofs.YtkdhgngpapfkdaaDoor
open Go.RowKit

theorem tmod_cases (x n : Int) (hn : 0 < n) : (x.tmod n < 0 ∧ x.tmod n + n = x % n) ∨ (0 ≤ x.tmod n ∧ x.tmod n = x % n) := by
  have h1 := Int.emod_nonneg x (show n ≠ 0 by omega)
  have h2 := Int.emod_lt_of_pos x hn
  rcases Int.le_total 0 x with hx | hx
  · rw [Int.tmod_eq_emod_of_nonneg hx]
    exact .inr ⟨h1, rfl⟩
  · obtain ⟨y, rfl⟩ : ∃ y, x = -y := ⟨-x, by omega⟩
    have hy : 0 ≤ y := by omega
    rw [Int.neg_tmod, Int.tmod_eq_emod_of_nonneg hy]
    have h3 := Int.emod_nonneg y (show n ≠ 0 by omega)
    have h4 := Int.emod_lt_of_pos y hn
    have e1 := Int.mul_ediv_add_emod y n
    have e2 := Int.mul_ediv_add_emod (-y) n
    by_cases hz : y % n = 0
    · right
      have : (-y) % n = 0 := by
        have : n ∣ y := Int.dvd_of_emod_eq_zero hz
        exact Int.emod_eq_zero_of_dvd (Int.dvd_neg.2 this)
      omega
    · left
      refine ⟨by omega, ?_⟩
      have : (-y) % n = n - y % n := by
        have e3 : -y = (n - y % n) + n * (-(y / n) - 1) := by
          rw [Int.mul_sub, Int.mul_neg, Int.mul_one]; omega
        rw [e3, Int.add_mul_emod_self_left, Int.emod_eq_of_lt (by omega) (by omega)]
      omega

theorem modulo_any (x n : Int) (w : World) (hn : 0 < n) (hn2 : n ≤ 1048576) (_ : -1000 ≤ x) (_ : x ≤ 1000) :
    Calls Tryd.prog 62 #[.int .i64 x, .int .i64 n] w fun e w' => e = .returned (.int .i64 (x % n)) ∧ w = w' := by
  have hne : n ≠ 0 := by omega
  have h1 := Int.emod_nonneg x (show n ≠ 0 by omega)
  have h2 := Int.emod_lt_of_pos x hn
  rcases tmod_cases x n hn with ⟨a, b⟩ | ⟨a, b⟩
  · have z1 := wrap_in (x.tmod n) (by omega) (by omega)
    have z2 := wrap_in (x.tmod n + n) (by omega) (by omega)
    have B := hide b
    clear b
    go_enter Tryd.func62, Tryd.ntmps62
    go_wp2
    go_ret
    exact ⟨ret_int (by rw [B.out]), rfl⟩
  · have z1 := wrap_in (x.tmod n) (by omega) (by omega)
    have B := hide b
    clear b
    have a' : ¬ (x.tmod n < 0) := by omega
    go_enter Tryd.func62, Tryd.ntmps62
    go_wp2
    go_ret
    exact ⟨ret_int (by rw [B.out]), rfl⟩

/-- the index that CornerAt takes -/
def cIdx (l : List (Int × Int)) (k : Int) : Nat := (k % (l.length : Int)).toNat
def cOk (l : List (Int × Int)) (k : Int) : Bool := !(l.length == 0) && inB k (-1000) 1000
def cX (l : List (Int × Int)) (k : Int) : Int := if cOk l k = true then gx l (cIdx l k) else 0
def cY (l : List (Int × Int)) (k : Int) : Int := if cOk l k = true then gy l (cIdx l k) else 0
theorem cIdx_lt {l : List (Int × Int)} {k : Int} (h : 0 < l.length) : (cIdx l k : Int) = k % (l.length : Int) ∧ cIdx l k < l.length := by
  have h1 := Int.emod_nonneg k (show (l.length : Int) ≠ 0 by omega)
  have h2 := Int.emod_lt_of_pos k (show 0 < (l.length : Int) by omega)
  unfold cIdx
  omega

/-- the first point of l from k on, of d, that is p -/
def firstC (l : List (Int × Int)) (px py : Int) : Nat → Nat → Int
  | _, 0 => -1
  | k, d + 1 => if (gx l k == px && gy l k == py) = true then (k : Int) else firstC l px py (k + 1) d
/-- IsCorner, as both texts give it -/
def isCorV (l : List (Int × Int)) (px py : Int) : Int := firstC l px py 0 l.length
theorem firstC_at (l : List (Int × Int)) (px py : Int) : ∀ d k m, k ≤ m → m < k + d → (∀ j, k ≤ j → j < m → (gx l j == px && gy l j == py) = false) → (gx l m == px && gy l m == py) = true → firstC l px py k d = (m : Int)
  | 0, k, m, h1, h2, _, _ => by omega
  | d + 1, k, m, h1, h2, h3, h4 => by
    unfold firstC
    by_cases e : k = m
    · subst e; rw [if_pos h4]
    · rw [if_neg (by rw [h3 k (Nat.le_refl _) (by omega)]; decide)]
      exact firstC_at l px py d (k + 1) m (by omega) (by omega) (fun j a b => h3 j (by omega) b) h4
theorem firstC_no (l : List (Int × Int)) (px py : Int) : ∀ d k, (∀ j, k ≤ j → j < k + d → (gx l j == px && gy l j == py) = false) → firstC l px py k d = -1
  | 0, _, _ => rfl
  | d + 1, k, h => by
    unfold firstC
    rw [if_neg (by rw [h k (Nat.le_refl _) (by omega)]; decide)]
    exact firstC_no l px py d (k + 1) (fun j a b => h j (by omega) (by omega))

set_option maxRecDepth 100000 in
set_option maxHeartbeats 1600000 in
theorem IsCorner_any (A : Option Addr) (l : List (Int × Int)) (c : Nat) (px py : Int) (w : World) (hp : RPts w A l) (hn : l.length ≤ 1048576) :
    Calls Tryd.prog 35 #[.agg #[.slice A l.length c], .agg #[.int .i64 px, .int .i64 py]] w fun e w' => e = .returned (.int .i64 (isCorV l px py)) ∧ Ext w w' := by
  have HB : Hid (∀ w', Ext ((w.alloc (.cells #[.slice A l.length c] 49)).alloc (.cells #[.int .i64 px, .int .i64 py] 27)) w' → w'.cell? ⟨w.heap.size, 0, none⟩ = some (.slice A l.length c) ∧ w.heap.size < w'.heap.size ∧ w'.cell? ⟨w.heap.size + 1, 0, none⟩ = some (.int .i64 px) ∧ w'.cell? ⟨w.heap.size + 1, 1, none⟩ = some (.int .i64 py) ∧ w.heap.size + 1 < w'.heap.size) := fun w' hx => by
    and_intros <;> (first | (have hz := hx.size; simp at hz; omega) | ((first | rw [hx.cells _ _ (by first | (simp; done) | (simp; omega))] | rw [hx.frozens _ _ (by first | (simp; done) | (simp; omega))]); (first | (simp [go_sem]; done) | (simp [go_sem, World.cell?_alloc_past]; done) | (simp [go_sem, World.frozen?]; done))))
  go_enter Tryd.func35, Tryd.ntmps35
  go_wp2
  go_loopw [10] (fun i wr => ∃ k : Nat, k ≤ l.length ∧ i = .int .i64 k ∧ Ext ((w.alloc (.cells #[.slice A l.length c] 49)).alloc (.cells #[.int .i64 px, .int .i64 py] 27)) wr ∧ Hid (∀ j, j < k → (gx l j == px && gy l j == py) = false)) (fun i _ => l.length - (intOf i).toNat)
  case atStart => exact ⟨0, Nat.zero_le _, rfl, Ext.refl _, fun j hj => absurd hj (by omega)⟩
  case round =>
    obtain ⟨k, hk, rfl, hbl, HR⟩ := hrel
    obtain ⟨wq, rfl⟩ : ∃ wq : World, wq = wr := ⟨_, rfl⟩
    have fb := HB.out wq (by (repeat (first | exact Ext.refl _ | assumption | apply Ext.alloc | apply Ext.drew | apply Ext.drewN | (refine Ext.trans ?_ (by assumption)))))
    by_cases hlt : k < l.length
    · have hpr : RPts wq A l := hp.ext (by (repeat (first | exact Ext.refl _ | assumption | apply Ext.alloc | apply Ext.drew | apply Ext.drewN | (refine Ext.trans ?_ (by assumption)))))
      obtain ⟨b, off, rfl⟩ := hpr.some_ (by omega)
      obtain ⟨hz, hx0, hy0⟩ := hpr.cell hlt
      by_cases h1 : gx l k = px
      · by_cases h2 : gy l k = py
        · have HV := hide (show isCorV l px py = k from firstC_at l px py l.length 0 k (by omega) (by omega) (fun j _ b => HR.out j b) (by simp [h1, h2]))
          go_wp2
          go_ret
          exact ⟨ret_int (by rw [HV.out]), by (repeat (first | exact Ext.refl _ | assumption | apply Ext.alloc | apply Ext.drew | apply Ext.drewN | (refine Ext.trans ?_ (by assumption))))⟩
        · have HO := hide (show (gx l k == px && gy l k == py) = false by simp [h2])
          go_wp2
          go_roundw
          case rel => exact ⟨k + 1, by omega, by go_num, by (repeat (first | exact Ext.refl _ | assumption | apply Ext.alloc | apply Ext.drew | apply Ext.drewN | (refine Ext.trans ?_ (by assumption)))), fun j hj => by by_cases e : j = k; (subst e; exact HO.out); exact HR.out j (by omega)⟩
          case measure => simp [intOf]; omega
      · have HO := hide (show (gx l k == px && gy l k == py) = false by simp [h1])
        go_wp2
        go_roundw
        case rel => exact ⟨k + 1, by omega, by go_num, by (repeat (first | exact Ext.refl _ | assumption | apply Ext.alloc | apply Ext.drew | apply Ext.drewN | (refine Ext.trans ?_ (by assumption)))), fun j hj => by by_cases e : j = k; (subst e; exact HO.out); exact HR.out j (by omega)⟩
        case measure => simp [intOf]; omega
    · have HV := hide (show isCorV l px py = -1 from firstC_no l px py l.length 0 (fun j _ b => HR.out j (by omega)))
      go_wp2
      go_ret
      exact ⟨ret_int (by rw [HV.out]), by (repeat (first | exact Ext.refl _ | assumption | apply Ext.alloc | apply Ext.drew | apply Ext.drewN | (refine Ext.trans ?_ (by assumption))))⟩

set_option maxRecDepth 100000 in
set_option maxHeartbeats 1600000 in
theorem CornerAt_any (A : Option Addr) (l : List (Int × Int)) (c : Nat) (k : Int) (w : World) (hp : RPts w A l) (hn : l.length ≤ 1048576) :
    Calls Tryd.prog 36 #[.agg #[.slice A l.length c], .int .i64 k] w fun e w' => e = .returned (.agg #[.int .i64 (cX l k), .int .i64 (cY l k)]) ∧ Ext w w' := by
  by_cases h0 : l.length = 0
  · have e : l = [] := List.eq_nil_of_length_eq_zero h0
    subst e
    have HB : Hid (∀ w', Ext ((w.alloc (.cells #[.slice A 0 c] 49)).alloc (.cells #[.int .i64 0, .int .i64 0] 27)) w' → w'.cell? ⟨w.heap.size, 0, none⟩ = some (.slice A 0 c) ∧ w.heap.size < w'.heap.size ∧ w'.cell? ⟨w.heap.size + 1, 0, none⟩ = some (.int .i64 0) ∧ w'.frozen? ⟨w.heap.size + 1, 0, none⟩ = false ∧ w'.cell? ⟨w.heap.size + 1, 1, none⟩ = some (.int .i64 0) ∧ w'.frozen? ⟨w.heap.size + 1, 1, none⟩ = false ∧ w.heap.size + 1 < w'.heap.size) := fun w' hx => by
      and_intros <;> (first | (have hz := hx.size; simp at hz; omega) | ((first | rw [hx.cells _ _ (by first | (simp; done) | (simp; omega))] | rw [hx.frozens _ _ (by first | (simp; done) | (simp; omega))]); (first | (simp [go_sem]; done) | (simp [go_sem, World.cell?_alloc_past]; done) | (simp [go_sem, World.frozen?]; done))))
    clear h0
    go_enter Tryd.func36, Tryd.ntmps36
    go_wp2
    exact bodyPost_ret (v := .agg #[.int .i64 0, .int .i64 0]) (by simp [results, Tryd.results36, go_sem]) rfl ⟨rfl, by (repeat (first | exact Ext.refl _ | assumption | apply Ext.alloc | apply Ext.drew | apply Ext.drewN | (refine Ext.setCell ?_ (by simp; done) _) | (refine Ext.setCell ?_ (by simp; omega) _) | (refine Ext.trans ?_ (by assumption))))⟩
  · obtain ⟨b, off, rfl⟩ := hp.some_ (by omega)
    have HB : Hid (∀ w', Ext ((w.alloc (.cells #[.slice (some ⟨b, off, none⟩) l.length c] 49)).alloc (.cells #[.int .i64 0, .int .i64 0] 27)) w' → w'.cell? ⟨w.heap.size, 0, none⟩ = some (.slice (some ⟨b, off, none⟩) l.length c) ∧ w.heap.size < w'.heap.size ∧ w'.cell? ⟨w.heap.size + 1, 0, none⟩ = some (.int .i64 0) ∧ w'.frozen? ⟨w.heap.size + 1, 0, none⟩ = false ∧ w'.cell? ⟨w.heap.size + 1, 1, none⟩ = some (.int .i64 0) ∧ w'.frozen? ⟨w.heap.size + 1, 1, none⟩ = false ∧ w.heap.size + 1 < w'.heap.size) := fun w' hx => by
      and_intros <;> (first | (have hz := hx.size; simp at hz; omega) | ((first | rw [hx.cells _ _ (by first | (simp; done) | (simp; omega))] | rw [hx.frozens _ _ (by first | (simp; done) | (simp; omega))]); (first | (simp [go_sem]; done) | (simp [go_sem, World.cell?_alloc_past]; done) | (simp [go_sem, World.frozen?]; done))))
    have hne : l ≠ [] := fun e => by rw [e] at h0; simp at h0
    have hz0 : ((l.length : Int) == 0) = false := by simp [hne]
    have hcok : cOk l k = inB k (-1000) 1000 := by simp [cOk, h0]
    unfold cX cY
    rw [hcok]
    clear hcok
    cases hi : inB k (-1000) 1000
    · go_enter Tryd.func36, Tryd.ntmps36
      go_wp2_with (go_at_call 57; refine (between_any _ _ _ _).mono ?_; rintro e w1 ⟨rfl, rfl⟩)
      exact bodyPost_ret (v := .agg #[.int .i64 0, .int .i64 0]) (by simp [results, Tryd.results36, go_sem]) rfl ⟨rfl, by (repeat (first | exact Ext.refl _ | assumption | apply Ext.alloc | apply Ext.drew | apply Ext.drewN | (refine Ext.setCell ?_ (by simp; done) _) | (refine Ext.setCell ?_ (by simp; omega) _) | (refine Ext.trans ?_ (by assumption))))⟩
    · obtain ⟨k1, k2⟩ := (inB_iff _ _ _).1 hi
      obtain ⟨m1, m2⟩ := cIdx_lt (k := k) (show 0 < l.length by omega)
      obtain ⟨hz, hx0, hy0⟩ := hp.cell m2
      generalize cIdx l k = m at *
      have m3 : k % (l.length : Int) = (m : Int) := m1.symm
      clear m1
      have i1 : (0 : Int) ≤ (m : Int) := by omega
      have i2 : (m : Int) < (l.length : Int) := by omega
      have hz3 : b < w.heap.size + 1 + 1 := by omega
      go_enter Tryd.func36, Tryd.ntmps36
      go_wp2_with (go_at_call 57; refine (between_any _ _ _ _).mono ?_; rintro e w1 ⟨rfl, rfl⟩)
      refine wp_flow_tail 9 (by kernel_rfl) (by kernel_rfl) (by kernel_rfl) (by kernel_rfl) (fun u => ⟨#[_, _, _, _, _, _, _, _, _, _, _, _, _, _, _, u 0, u 1, u 2, u 3, u 4, u 5, u 6, u 7, u 8], _⟩) (fun i => List.getD [_, _, _, _, _, _, _, _, _] i undef) [is ?v1_0, is ?v1_1, is ?v1_2, is ?v1_3, is ?v1_4, is ?v1_5, is ?v1_6, is ?v1_7, is ?v1_8] (fun w' => w'.cell? ⟨w.heap.size, 0, none⟩ = some (.slice (some ⟨b, off, none⟩) l.length c) ∧ w.heap.size < w'.heap.size ∧ w'.cell? ⟨w.heap.size + 1, 0, none⟩ = some (.int .i64 0) ∧ w'.frozen? ⟨w.heap.size + 1, 0, none⟩ = false ∧ w'.cell? ⟨w.heap.size + 1, 1, none⟩ = some (.int .i64 0) ∧ w'.frozen? ⟨w.heap.size + 1, 1, none⟩ = false ∧ w.heap.size + 1 < w'.heap.size ∧ w'.cell? ⟨b, off + m * 2, none⟩ = some (.int .i64 (gx l (m))) ∧ w'.cell? ⟨b, off + m * 2 + 1, none⟩ = some (.int .i64 (gy l (m)))) _ rfl ?hC1 ?hs1 ?hV1 ?fin1
      case hC1 => exact fun w' hx => (by have hq : Ext _ w' := hx; have hf0 := HB.out w' (by (repeat (first | exact Ext.refl _ | assumption | apply Ext.alloc | apply Ext.drew | apply Ext.drewN | (refine Ext.trans ?_ (by assumption))))); and_intros <;> first | exact hf0 | exact hf0.1 | exact hf0.2.1 | exact hf0.2.2.1 | exact hf0.2.2.2.1 | exact hf0.2.2.2.2.1 | exact hf0.2.2.2.2.2.1 | exact hf0.2.2.2.2.2.2.1 | exact hf0.2.2.2.2.2.2.2.1 | exact hf0.2.2.2.2.2.2.2.2.1 | exact hf0.2.2.2.2.2.2.2.2.2.1 | exact hf0.2.2.2.2.2.2.2.2.2.2.1 | exact hf0.2.2.2.2.2.2.2.2.2.2.2.1 | exact hf0.2.2.2.2.2.2.2.2.2.2.2.2.1 | exact hf0.2.2.2.2.2.2.2.2.2.2.2.2.2.1 | exact hf0.2 | exact hf0.2.2 | exact hf0.2.2.2 | exact hf0.2.2.2.2 | exact hf0.2.2.2.2.2 | exact hf0.2.2.2.2.2.2 | exact hf0.2.2.2.2.2.2.2 | exact hf0.2.2.2.2.2.2.2.2 | exact hf0.2.2.2.2.2.2.2.2.2 | exact hf0.2.2.2.2.2.2.2.2.2.2 | exact hf0.2.2.2.2.2.2.2.2.2.2.2 | exact hf0.2.2.2.2.2.2.2.2.2.2.2.2 | exact hf0.2.2.2.2.2.2.2.2.2.2.2.2.2 | exact ((hp.ext (Ext.trans (by (repeat (first | exact Ext.refl _ | assumption | apply Ext.alloc | apply Ext.drew | apply Ext.drewN | (refine Ext.trans ?_ (by assumption))))) hq)).cell m2).2.1 | exact ((hp.ext (Ext.trans (by (repeat (first | exact Ext.refl _ | assumption | apply Ext.alloc | apply Ext.drew | apply Ext.drewN | (refine Ext.trans ?_ (by assumption))))) hq)).cell m2).2.2)
      case hs1 =>
        repeat' (first
          | exact FSteps.nil
          | refine FSteps.cons ?_ ?_
          | (refine FStep.off_ _ _ _ rfl rfl ?_ (fun _ => rfl) ?_; (focus (intro u w hd; simp [vOf, is, Region.binds] at hd; simp [hd])); (intro w'; exact rfl); done)
          | ((first
              | refine FStep.plain rfl ?_
              | (refine FStep.on_ _ _ _ rfl rfl ?_ ?_; (focus (intro u w hd; simp [vOf, is, Region.binds] at hd; simp [hd]))))
             intro u w hW hC hd K hK
             (try simp [vOf, is, Region.binds] at hd)
             simp only [upd, Nat.reduceEqDiff, if_true, if_false] at hK
             (try simp only [hd] at hK)
             go_simp
             (first
               | (refine hK _ _ ?_ ?_; (first | exact rfl); (repeat (first | exact Ext.refl _ | assumption | apply Ext.alloc | apply Ext.drew | apply Ext.drewN | (refine Ext.trans ?_ (by assumption)))))
               | (go_at_call 62; refine (modulo_any _ _ _ (by omega) (by omega) (by omega) (by omega)).mono ?_; rw [m3]; rintro e w1 ⟨rfl, rfl⟩; (try go_simp); refine hK _ _ ?_ ?_; exact rfl; (repeat (first | exact Ext.refl _ | assumption | apply Ext.alloc | apply Ext.drew | apply Ext.drewN | (refine Ext.trans ?_ (by assumption))))))))
      case hV1 => (simp only [List.forall_mem_cons]; simp [stable_is])
      case fin1 =>
        intro u w2 hW2 hC2 hd
        simp only [AllV, is] at hd
        simp only [List.drop_succ_cons, List.drop_zero]
        simp only [hd]
        clear hd
        go_wp2
        exact bodyPost_ret (v := .agg #[.int .i64 (gx l m), .int .i64 (gy l m)]) (by simp [results, Tryd.results36, go_sem, hC2]) rfl ⟨rfl, by (repeat (first | exact Ext.refl _ | assumption | apply Ext.alloc | apply Ext.drew | apply Ext.drewN | (refine Ext.setCell ?_ (by simp; done) _) | (refine Ext.setCell ?_ (by simp; omega) _) | (refine Ext.trans ?_ (by assumption))))⟩

end Go.Proofs.YtkdhgngpapfkdaaDoor
