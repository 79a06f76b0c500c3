/-
  Contracts: CornerAt, IsCorner, DoubleArea.
-/
import Derived.Test.YtlghppkifccakaaArea
import Derived.Test.YtlghppkifccakaaRoomLaw
namespace Go.Proofs.Ytlghppkifccakaa
open Go.RowKit

theorem RPts.some_ {w : World} {A : Option Addr} {l : List (Int × Int)} (h : RPts w A l) (hl : 0 < l.length) : ∃ b off, A = some ⟨b, off, none⟩ :=
  let ⟨b, off, e, _⟩ := h hl
  ⟨b, off, e⟩

theorem RPts.cell {w : World} {b off : Nat} {l : List (Int × Int)} (h : RPts w (some ⟨b, off, none⟩) l) {k : Nat} (hk : k < l.length) :
    b < w.heap.size ∧ w.cell? ⟨b, off + k * 2, none⟩ = some (.int .i64 (gx l k)) ∧ w.cell? ⟨b, off + k * 2 + 1, none⟩ = some (.int .i64 (gy l k)) := by
  obtain ⟨b', off', e, h1, h2, h3⟩ := h.at_ hk
  injection e with e
  injection e with e1 e2 _
  subst e1 e2
  exact ⟨h1, h2, h3⟩

theorem inB_iff (x lo hi : Int) : inB x lo hi = true ↔ lo ≤ x ∧ x ≤ hi := by simp [inB]

theorem tmod_cases (x n : Int) (hn : 0 < n) : (x.tmod n < 0 ∧ x.tmod n + n = x % n) ∨ (0 ≤ x.tmod n ∧ x.tmod n = x % n) := by
  have h1 := Int.emod_nonneg x (show n ≠ 0 by omega)
  have h2 := Int.emod_lt_of_pos x hn
  rcases Int.le_total 0 x with hx | hx
  · rw [Int.tmod_eq_emod_of_nonneg hx]
    exact .inr ⟨h1, rfl⟩
  · obtain ⟨y, rfl⟩ : ∃ y, x = -y := ⟨-x, by omega⟩
    have hy : 0 ≤ y := by omega
    rw [Int.neg_tmod, Int.tmod_eq_emod_of_nonneg hy]
    have h3 := Int.emod_nonneg y (show n ≠ 0 by omega)
    have h4 := Int.emod_lt_of_pos y hn
    have e1 := Int.mul_ediv_add_emod y n
    have e2 := Int.mul_ediv_add_emod (-y) n
    by_cases hz : y % n = 0
    · right
      have : (-y) % n = 0 := by
        have : n ∣ y := Int.dvd_of_emod_eq_zero hz
        exact Int.emod_eq_zero_of_dvd (Int.dvd_neg.2 this)
      omega
    · left
      refine ⟨by omega, ?_⟩
      have : (-y) % n = n - y % n := by
        have e3 : -y = (n - y % n) + n * (-(y / n) - 1) := by
          rw [Int.mul_sub, Int.mul_neg, Int.mul_one]; omega
        rw [e3, Int.add_mul_emod_self_left, Int.emod_eq_of_lt (by omega) (by omega)]
      omega

theorem modulo_any (x n : Int) (w : World) (hn : 0 < n) (hn2 : n ≤ 1048576) (_ : -1000 ≤ x) (_ : x ≤ 1000) :
    Calls Try.prog 56 #[.int .i64 x, .int .i64 n] w fun e w' => e = .returned (.int .i64 (x % n)) ∧ w = w' := by
  have hne : n ≠ 0 := by omega
  have h1 := Int.emod_nonneg x (show n ≠ 0 by omega)
  have h2 := Int.emod_lt_of_pos x hn
  rcases tmod_cases x n hn with ⟨a, b⟩ | ⟨a, b⟩
  · have z1 := wrap_in (x.tmod n) (by omega) (by omega)
    have z2 := wrap_in (x.tmod n + n) (by omega) (by omega)
    have B := hide b
    clear b
    go_enter Try.func56, Try.ntmps56
    go_wp2
    go_ret
    exact ⟨ret_int (by rw [B.out]), rfl⟩
  · have z1 := wrap_in (x.tmod n) (by omega) (by omega)
    have B := hide b
    clear b
    have a' : ¬ (x.tmod n < 0) := by omega
    go_enter Try.func56, Try.ntmps56
    go_wp2
    go_ret
    exact ⟨ret_int (by rw [B.out]), rfl⟩

/-- the index that CornerAt takes -/
def cIdx (l : List (Int × Int)) (k : Int) : Nat := (k % (l.length : Int)).toNat
def cOk (l : List (Int × Int)) (k : Int) : Bool := !(l.length == 0) && inB k (-1000) 1000
def cX (l : List (Int × Int)) (k : Int) : Int := if cOk l k = true then gx l (cIdx l k) else 0
def cY (l : List (Int × Int)) (k : Int) : Int := if cOk l k = true then gy l (cIdx l k) else 0
theorem cIdx_lt {l : List (Int × Int)} {k : Int} (h : 0 < l.length) : (cIdx l k : Int) = k % (l.length : Int) ∧ cIdx l k < l.length := by
  have h1 := Int.emod_nonneg k (show (l.length : Int) ≠ 0 by omega)
  have h2 := Int.emod_lt_of_pos k (show 0 < (l.length : Int) by omega)
  unfold cIdx
  omega

/-- the first point of l from k on, of d, that is p -/
def firstC (l : List (Int × Int)) (px py : Int) : Nat → Nat → Int
  | _, 0 => -1
  | k, d + 1 => if (gx l k == px && gy l k == py) = true then (k : Int) else firstC l px py (k + 1) d
/-- IsCorner, as both texts give it -/
def isCorV (l : List (Int × Int)) (px py : Int) : Int := firstC l px py 0 l.length
theorem firstC_at (l : List (Int × Int)) (px py : Int) : ∀ d k m, k ≤ m → m < k + d → (∀ j, k ≤ j → j < m → (gx l j == px && gy l j == py) = false) → (gx l m == px && gy l m == py) = true → firstC l px py k d = (m : Int)
  | 0, k, m, h1, h2, _, _ => by omega
  | d + 1, k, m, h1, h2, h3, h4 => by
    unfold firstC
    by_cases e : k = m
    · subst e; rw [if_pos h4]
    · rw [if_neg (by rw [h3 k (Nat.le_refl _) (by omega)]; decide)]
      exact firstC_at l px py d (k + 1) m (by omega) (by omega) (fun j a b => h3 j (by omega) b) h4
theorem firstC_no (l : List (Int × Int)) (px py : Int) : ∀ d k, (∀ j, k ≤ j → j < k + d → (gx l j == px && gy l j == py) = false) → firstC l px py k d = -1
  | 0, _, _ => rfl
  | d + 1, k, h => by
    unfold firstC
    rw [if_neg (by rw [h k (Nat.le_refl _) (by omega)]; decide)]
    exact firstC_no l px py d (k + 1) (fun j a b => h j (by omega) (by omega))

/-- DoubleArea, as both texts give it -/
def dblV (l : List (Int × Int)) : Int := if l.length ≤ 10 then (if allok l = true then areaZ l else 0) else 0

set_option maxHeartbeats 800000 in
theorem DoubleArea_any (A : Option Addr) (l : List (Int × Int)) (c : Nat) (w : World) (hp : RPts w A l) (hn : l.length ≤ 1048576) :
    Calls Try.prog 37 #[.slice A l.length c] w fun e w' => e = .returned (.int .i64 (dblV l)) ∧ Ext w w' := by
  unfold dblV
  by_cases h : l.length ≤ 10
  · rw [if_pos h]
    cases ha : allok l
    · go_enter Try.func37, Try.ntmps37
      go_wp2_with (go_at_call 50; refine (pointsOk_any _ _ _ _ hp hn).mono ?_; rintro e w1 ⟨rfl, hb⟩)
      go_ret
      exact ⟨rfl, by (repeat (first | exact Ext.refl _ | assumption | apply Ext.alloc | apply Ext.drew | apply Ext.drewN | (refine Ext.trans ?_ (by assumption))))⟩
    · have hf : Fine l := ⟨ha, h⟩
      go_enter Try.func37, Try.ntmps37
      go_wp2_with (first | (go_at_call 50; refine (pointsOk_any _ _ _ _ hp hn).mono ?_; rintro e w1 ⟨rfl, hb⟩) | (go_at_call 59; refine (area_any _ _ _ _ (hp.ext (by (repeat (first | exact Ext.refl _ | assumption | apply Ext.alloc | apply Ext.drew | apply Ext.drewN | (refine Ext.trans ?_ (by assumption)))))) hf).mono ?_; rintro e w2 ⟨rfl, hb2⟩))
      go_ret
      exact ⟨rfl, by (repeat (first | exact Ext.refl _ | assumption | apply Ext.alloc | apply Ext.drew | apply Ext.drewN | (refine Ext.trans ?_ (by assumption))))⟩
  · rw [if_neg h]
    go_enter Try.func37, Try.ntmps37
    go_wp2
    go_ret
    exact ⟨rfl, by (repeat (first | exact Ext.refl _ | assumption | apply Ext.alloc | apply Ext.drew | apply Ext.drewN | (refine Ext.trans ?_ (by assumption))))⟩

set_option maxRecDepth 100000 in
set_option maxHeartbeats 1600000 in
theorem IsCorner_any (A : Option Addr) (l : List (Int × Int)) (c : Nat) (px py : Int) (w : World) (hp : RPts w A l) (hn : l.length ≤ 1048576) :
    Calls Try.prog 21 #[.agg #[.slice A l.length c], .agg #[.int .i64 px, .int .i64 py]] w fun e w' => e = .returned (.int .i64 (isCorV l px py)) ∧ Ext w w' := by
  have HB : Hid (∀ w', Ext ((w.alloc (.cells #[.slice A l.length c] 41)).alloc (.cells #[.int .i64 px, .int .i64 py] 27)) w' → w'.cell? ⟨w.heap.size, 0, none⟩ = some (.slice A l.length c) ∧ w.heap.size < w'.heap.size ∧ w'.cell? ⟨w.heap.size + 1, 0, none⟩ = some (.int .i64 px) ∧ w'.cell? ⟨w.heap.size + 1, 1, none⟩ = some (.int .i64 py) ∧ w.heap.size + 1 < w'.heap.size) := fun w' hx => by
    and_intros <;> (first | (have hz := hx.size; simp at hz; omega) | ((first | rw [hx.cells _ _ (by first | (simp; done) | (simp; omega))] | rw [hx.frozens _ _ (by first | (simp; done) | (simp; omega))]); (first | (simp [go_sem]; done) | (simp [go_sem, World.cell?_alloc_past]; done) | (simp [go_sem, World.frozen?]; done))))
  go_enter Try.func21, Try.ntmps21
  go_wp2
  go_loopw [10] (fun i wr => ∃ k : Nat, k ≤ l.length ∧ i = .int .i64 k ∧ Ext ((w.alloc (.cells #[.slice A l.length c] 41)).alloc (.cells #[.int .i64 px, .int .i64 py] 27)) wr ∧ Hid (∀ j, j < k → (gx l j == px && gy l j == py) = false)) (fun i _ => l.length - (intOf i).toNat)
  case atStart => exact ⟨0, Nat.zero_le _, rfl, Ext.refl _, fun j hj => absurd hj (by omega)⟩
  case round =>
    obtain ⟨k, hk, rfl, hbl, HR⟩ := hrel
    obtain ⟨wq, rfl⟩ : ∃ wq : World, wq = wr := ⟨_, rfl⟩
    have fb := HB.out wq (by (repeat (first | exact Ext.refl _ | assumption | apply Ext.alloc | apply Ext.drew | apply Ext.drewN | (refine Ext.trans ?_ (by assumption)))))
    by_cases hlt : k < l.length
    · have hpr : RPts wq A l := hp.ext (by (repeat (first | exact Ext.refl _ | assumption | apply Ext.alloc | apply Ext.drew | apply Ext.drewN | (refine Ext.trans ?_ (by assumption)))))
      obtain ⟨b, off, rfl⟩ := hpr.some_ (by omega)
      obtain ⟨hz, hx0, hy0⟩ := hpr.cell hlt
      by_cases h1 : gx l k = px
      · by_cases h2 : gy l k = py
        · have HV := hide (show isCorV l px py = k from firstC_at l px py l.length 0 k (by omega) (by omega) (fun j _ b => HR.out j b) (by simp [h1, h2]))
          go_wp2
          go_ret
          exact ⟨ret_int (by rw [HV.out]), by (repeat (first | exact Ext.refl _ | assumption | apply Ext.alloc | apply Ext.drew | apply Ext.drewN | (refine Ext.trans ?_ (by assumption))))⟩
        · have HO := hide (show (gx l k == px && gy l k == py) = false by simp [h2])
          go_wp2
          go_roundw
          case rel => exact ⟨k + 1, by omega, by go_num, by (repeat (first | exact Ext.refl _ | assumption | apply Ext.alloc | apply Ext.drew | apply Ext.drewN | (refine Ext.trans ?_ (by assumption)))), fun j hj => by by_cases e : j = k; (subst e; exact HO.out); exact HR.out j (by omega)⟩
          case measure => simp [intOf]; omega
      · have HO := hide (show (gx l k == px && gy l k == py) = false by simp [h1])
        go_wp2
        go_roundw
        case rel => exact ⟨k + 1, by omega, by go_num, by (repeat (first | exact Ext.refl _ | assumption | apply Ext.alloc | apply Ext.drew | apply Ext.drewN | (refine Ext.trans ?_ (by assumption)))), fun j hj => by by_cases e : j = k; (subst e; exact HO.out); exact HR.out j (by omega)⟩
        case measure => simp [intOf]; omega
    · have HV := hide (show isCorV l px py = -1 from firstC_no l px py l.length 0 (fun j _ b => HR.out j (by omega)))
      go_wp2
      go_ret
      exact ⟨ret_int (by rw [HV.out]), by (repeat (first | exact Ext.refl _ | assumption | apply Ext.alloc | apply Ext.drew | apply Ext.drewN | (refine Ext.trans ?_ (by assumption))))⟩

set_option maxRecDepth 100000 in
set_option maxHeartbeats 1600000 in
theorem sIsCorner_any (A : Option Addr) (l : List (Int × Int)) (c : Nat) (px py : Int) (w : World) (hp : RPts w A l) (hn : l.length ≤ 1048576) :
    Calls Try.prog 18 #[.agg #[.slice A l.length c], .agg #[.int .i64 px, .int .i64 py]] w fun e w' => e = .returned (.int .i64 (isCorV l px py)) ∧ Ext w w' := by
  have HB : Hid (∀ w', Ext ((w.alloc (.cells #[.slice A l.length c] 41)).alloc (.cells #[.int .i64 px, .int .i64 py] 27)) w' → w'.cell? ⟨w.heap.size, 0, none⟩ = some (.slice A l.length c) ∧ w.heap.size < w'.heap.size ∧ w'.cell? ⟨w.heap.size + 1, 0, none⟩ = some (.int .i64 px) ∧ w'.cell? ⟨w.heap.size + 1, 1, none⟩ = some (.int .i64 py) ∧ w.heap.size + 1 < w'.heap.size) := fun w' hx => by
    and_intros <;> (first | (have hz := hx.size; simp at hz; omega) | ((first | rw [hx.cells _ _ (by first | (simp; done) | (simp; omega))] | rw [hx.frozens _ _ (by first | (simp; done) | (simp; omega))]); (first | (simp [go_sem]; done) | (simp [go_sem, World.cell?_alloc_past]; done) | (simp [go_sem, World.frozen?]; done))))
  go_enter Try.func18, Try.ntmps18
  go_wp2
  go_loopw [5] (fun i wr => ∃ k : Nat, k ≤ l.length ∧ i = .int .i64 k ∧ Ext ((w.alloc (.cells #[.slice A l.length c] 41)).alloc (.cells #[.int .i64 px, .int .i64 py] 27)) wr ∧ Hid (∀ j, j < k → (gx l j == px && gy l j == py) = false)) (fun i _ => l.length - (intOf i).toNat)
  case atStart => exact ⟨0, Nat.zero_le _, rfl, Ext.refl _, fun j hj => absurd hj (by omega)⟩
  case round =>
    obtain ⟨k, hk, rfl, hbl, HR⟩ := hrel
    obtain ⟨wq, rfl⟩ : ∃ wq : World, wq = wr := ⟨_, rfl⟩
    have fb := HB.out wq (by (repeat (first | exact Ext.refl _ | assumption | apply Ext.alloc | apply Ext.drew | apply Ext.drewN | (refine Ext.trans ?_ (by assumption)))))
    by_cases hlt : k < l.length
    · have hpr : RPts wq A l := hp.ext (by (repeat (first | exact Ext.refl _ | assumption | apply Ext.alloc | apply Ext.drew | apply Ext.drewN | (refine Ext.trans ?_ (by assumption)))))
      obtain ⟨b, off, rfl⟩ := hpr.some_ (by omega)
      obtain ⟨hz, hx0, hy0⟩ := hpr.cell hlt
      have i1 : (0 : Int) ≤ (k : Int) := by omega
      have i2 : (k : Int) < (l.length : Int) := by omega
      by_cases h1 : gx l k = px
      · by_cases h2 : gy l k = py
        · have HV := hide (show isCorV l px py = k from firstC_at l px py l.length 0 k (by omega) (by omega) (fun j _ b => HR.out j b) (by simp [h1, h2]))
          go_wp2
          refine wp_flow (by kernel_rfl) (by kernel_rfl) (fun u => ⟨#[_, _, _, _, _, _, _, _, _, _, _, _, _, u 0, u 1, u 2, u 3, u 4, u 5, u 6, _], _⟩) (fun i => List.getD [_, _, _, _, _, _, _] i undef) [is ?v4_0, is ?v4_1, is ?v4_2, is ?v4_3, is ?v4_4, is ?v4_5, is ?v4_6] (fun w' => w'.cell? ⟨w.heap.size, 0, none⟩ = some (.slice (some ⟨b, off, none⟩) l.length c) ∧ w.heap.size < w'.heap.size ∧ w'.cell? ⟨w.heap.size + 1, 0, none⟩ = some (.int .i64 px) ∧ w'.cell? ⟨w.heap.size + 1, 1, none⟩ = some (.int .i64 py) ∧ w.heap.size + 1 < w'.heap.size ∧ w'.cell? ⟨b, off + k * 2, none⟩ = some (.int .i64 (gx l (k))) ∧ w'.cell? ⟨b, off + k * 2 + 1, none⟩ = some (.int .i64 (gy l (k)))) _ rfl ?hC4 ?hs4 ?hV4 ?fin4
          case hC4 => exact fun w' hx => (by have hq : Ext _ w' := hx; have hf0 := HB.out w' (by (repeat (first | exact Ext.refl _ | assumption | apply Ext.alloc | apply Ext.drew | apply Ext.drewN | (refine Ext.trans ?_ (by assumption))))); and_intros <;> first | exact hf0 | exact hf0.1 | exact hf0.2.1 | exact hf0.2.2.1 | exact hf0.2.2.2.1 | exact hf0.2.2.2.2.1 | exact hf0.2.2.2.2.2.1 | exact hf0.2.2.2.2.2.2.1 | exact hf0.2.2.2.2.2.2.2.1 | exact hf0.2.2.2.2.2.2.2.2.1 | exact hf0.2.2.2.2.2.2.2.2.2.1 | exact hf0.2.2.2.2.2.2.2.2.2.2.1 | exact hf0.2.2.2.2.2.2.2.2.2.2.2.1 | exact hf0.2.2.2.2.2.2.2.2.2.2.2.2.1 | exact hf0.2.2.2.2.2.2.2.2.2.2.2.2.2.1 | exact hf0.2 | exact hf0.2.2 | exact hf0.2.2.2 | exact hf0.2.2.2.2 | exact hf0.2.2.2.2.2 | exact hf0.2.2.2.2.2.2 | exact hf0.2.2.2.2.2.2.2 | exact hf0.2.2.2.2.2.2.2.2 | exact hf0.2.2.2.2.2.2.2.2.2 | exact hf0.2.2.2.2.2.2.2.2.2.2 | exact hf0.2.2.2.2.2.2.2.2.2.2.2 | exact hf0.2.2.2.2.2.2.2.2.2.2.2.2 | exact hf0.2.2.2.2.2.2.2.2.2.2.2.2.2 | exact ((hpr.ext hq).cell hlt).2.1 | exact ((hpr.ext hq).cell hlt).2.2)
          case hs4 =>
            repeat' (first
              | exact FSteps.nil
              | refine FSteps.cons ?_ ?_
              | (refine FStep.off_ _ _ _ rfl rfl ?_ (fun _ => rfl) ?_; (focus (intro u w hd; simp [vOf, is, Region.binds] at hd; simp [hd])); (intro w'; exact rfl); done)
              | ((first
                  | refine FStep.plain rfl ?_
                  | (refine FStep.on_ _ _ _ rfl rfl ?_ ?_; (focus (intro u w hd; simp [vOf, is, Region.binds] at hd; simp [hd]))))
                 intro u w hW hC hd K hK
                 (try simp [vOf, is, Region.binds] at hd)
                 simp only [upd, Nat.reduceEqDiff, if_true, if_false] at hK
                 (try simp only [hd] at hK)
                 go_simp
                 (first
                   | (refine hK _ _ ?_ ?_; (first | exact rfl); (repeat (first | exact Ext.refl _ | assumption | apply Ext.alloc | apply Ext.drew | apply Ext.drewN | (refine Ext.trans ?_ (by assumption))))))))
          case hV4 => (simp only [List.forall_mem_cons]; simp [stable_is])
          case fin4 =>
            intro u w2 hW2 hC2 hd
            simp only [AllV, is] at hd
            simp only [hd]
            clear hd
            clear hC2 fb hx0 hy0
            go_wp2
            go_ret
            exact ⟨ret_int (by rw [HV.out]), by (repeat (first | exact Ext.refl _ | assumption | apply Ext.alloc | apply Ext.drew | apply Ext.drewN | (refine Ext.trans ?_ (by assumption))))⟩
        · have HO := hide (show (gx l k == px && gy l k == py) = false by simp [h2])
          go_wp2
          refine wp_flow (by kernel_rfl) (by kernel_rfl) (fun u => ⟨#[_, _, _, _, _, _, _, _, _, _, _, _, _, u 0, u 1, u 2, u 3, u 4, u 5, u 6, _], _⟩) (fun i => List.getD [_, _, _, _, _, _, _] i undef) [is ?v5_0, is ?v5_1, is ?v5_2, is ?v5_3, is ?v5_4, is ?v5_5, is ?v5_6] (fun w' => w'.cell? ⟨w.heap.size, 0, none⟩ = some (.slice (some ⟨b, off, none⟩) l.length c) ∧ w.heap.size < w'.heap.size ∧ w'.cell? ⟨w.heap.size + 1, 0, none⟩ = some (.int .i64 px) ∧ w'.cell? ⟨w.heap.size + 1, 1, none⟩ = some (.int .i64 py) ∧ w.heap.size + 1 < w'.heap.size ∧ w'.cell? ⟨b, off + k * 2, none⟩ = some (.int .i64 (gx l (k))) ∧ w'.cell? ⟨b, off + k * 2 + 1, none⟩ = some (.int .i64 (gy l (k)))) _ rfl ?hC5 ?hs5 ?hV5 ?fin5
          case hC5 => exact fun w' hx => (by have hq : Ext _ w' := hx; have hf0 := HB.out w' (by (repeat (first | exact Ext.refl _ | assumption | apply Ext.alloc | apply Ext.drew | apply Ext.drewN | (refine Ext.trans ?_ (by assumption))))); and_intros <;> first | exact hf0 | exact hf0.1 | exact hf0.2.1 | exact hf0.2.2.1 | exact hf0.2.2.2.1 | exact hf0.2.2.2.2.1 | exact hf0.2.2.2.2.2.1 | exact hf0.2.2.2.2.2.2.1 | exact hf0.2.2.2.2.2.2.2.1 | exact hf0.2.2.2.2.2.2.2.2.1 | exact hf0.2.2.2.2.2.2.2.2.2.1 | exact hf0.2.2.2.2.2.2.2.2.2.2.1 | exact hf0.2.2.2.2.2.2.2.2.2.2.2.1 | exact hf0.2.2.2.2.2.2.2.2.2.2.2.2.1 | exact hf0.2.2.2.2.2.2.2.2.2.2.2.2.2.1 | exact hf0.2 | exact hf0.2.2 | exact hf0.2.2.2 | exact hf0.2.2.2.2 | exact hf0.2.2.2.2.2 | exact hf0.2.2.2.2.2.2 | exact hf0.2.2.2.2.2.2.2 | exact hf0.2.2.2.2.2.2.2.2 | exact hf0.2.2.2.2.2.2.2.2.2 | exact hf0.2.2.2.2.2.2.2.2.2.2 | exact hf0.2.2.2.2.2.2.2.2.2.2.2 | exact hf0.2.2.2.2.2.2.2.2.2.2.2.2 | exact hf0.2.2.2.2.2.2.2.2.2.2.2.2.2 | exact ((hpr.ext hq).cell hlt).2.1 | exact ((hpr.ext hq).cell hlt).2.2)
          case hs5 =>
            repeat' (first
              | exact FSteps.nil
              | refine FSteps.cons ?_ ?_
              | (refine FStep.off_ _ _ _ rfl rfl ?_ (fun _ => rfl) ?_; (focus (intro u w hd; simp [vOf, is, Region.binds] at hd; simp [hd])); (intro w'; exact rfl); done)
              | ((first
                  | refine FStep.plain rfl ?_
                  | (refine FStep.on_ _ _ _ rfl rfl ?_ ?_; (focus (intro u w hd; simp [vOf, is, Region.binds] at hd; simp [hd]))))
                 intro u w hW hC hd K hK
                 (try simp [vOf, is, Region.binds] at hd)
                 simp only [upd, Nat.reduceEqDiff, if_true, if_false] at hK
                 (try simp only [hd] at hK)
                 go_simp
                 (first
                   | (refine hK _ _ ?_ ?_; (first | exact rfl); (repeat (first | exact Ext.refl _ | assumption | apply Ext.alloc | apply Ext.drew | apply Ext.drewN | (refine Ext.trans ?_ (by assumption))))))))
          case hV5 => (simp only [List.forall_mem_cons]; simp [stable_is])
          case fin5 =>
            intro u w2 hW2 hC2 hd
            simp only [AllV, is] at hd
            simp only [hd]
            clear hd
            clear hC2 fb hx0 hy0
            go_wp2
            go_roundw
            case rel => exact ⟨k + 1, by omega, by go_num, by (repeat (first | exact Ext.refl _ | assumption | apply Ext.alloc | apply Ext.drew | apply Ext.drewN | (refine Ext.trans ?_ (by assumption)))), fun j hj => by by_cases e : j = k; (subst e; exact HO.out); exact HR.out j (by omega)⟩
            case measure => simp [intOf]; omega
      · have HO := hide (show (gx l k == px && gy l k == py) = false by simp [h1])
        go_wp2
        refine wp_flow (by kernel_rfl) (by kernel_rfl) (fun u => ⟨#[_, _, _, _, _, _, _, _, _, _, _, _, _, u 0, u 1, u 2, u 3, u 4, u 5, u 6, _], _⟩) (fun i => List.getD [_, _, _, _, _, _, _] i undef) [is ?v6_0, is ?v6_1, is ?v6_2, is ?v6_3, is ?v6_4, is ?v6_5, is ?v6_6] (fun w' => w'.cell? ⟨w.heap.size, 0, none⟩ = some (.slice (some ⟨b, off, none⟩) l.length c) ∧ w.heap.size < w'.heap.size ∧ w'.cell? ⟨w.heap.size + 1, 0, none⟩ = some (.int .i64 px) ∧ w'.cell? ⟨w.heap.size + 1, 1, none⟩ = some (.int .i64 py) ∧ w.heap.size + 1 < w'.heap.size ∧ w'.cell? ⟨b, off + k * 2, none⟩ = some (.int .i64 (gx l (k))) ∧ w'.cell? ⟨b, off + k * 2 + 1, none⟩ = some (.int .i64 (gy l (k)))) _ rfl ?hC6 ?hs6 ?hV6 ?fin6
        case hC6 => exact fun w' hx => (by have hq : Ext _ w' := hx; have hf0 := HB.out w' (by (repeat (first | exact Ext.refl _ | assumption | apply Ext.alloc | apply Ext.drew | apply Ext.drewN | (refine Ext.trans ?_ (by assumption))))); and_intros <;> first | exact hf0 | exact hf0.1 | exact hf0.2.1 | exact hf0.2.2.1 | exact hf0.2.2.2.1 | exact hf0.2.2.2.2.1 | exact hf0.2.2.2.2.2.1 | exact hf0.2.2.2.2.2.2.1 | exact hf0.2.2.2.2.2.2.2.1 | exact hf0.2.2.2.2.2.2.2.2.1 | exact hf0.2.2.2.2.2.2.2.2.2.1 | exact hf0.2.2.2.2.2.2.2.2.2.2.1 | exact hf0.2.2.2.2.2.2.2.2.2.2.2.1 | exact hf0.2.2.2.2.2.2.2.2.2.2.2.2.1 | exact hf0.2.2.2.2.2.2.2.2.2.2.2.2.2.1 | exact hf0.2 | exact hf0.2.2 | exact hf0.2.2.2 | exact hf0.2.2.2.2 | exact hf0.2.2.2.2.2 | exact hf0.2.2.2.2.2.2 | exact hf0.2.2.2.2.2.2.2 | exact hf0.2.2.2.2.2.2.2.2 | exact hf0.2.2.2.2.2.2.2.2.2 | exact hf0.2.2.2.2.2.2.2.2.2.2 | exact hf0.2.2.2.2.2.2.2.2.2.2.2 | exact hf0.2.2.2.2.2.2.2.2.2.2.2.2 | exact hf0.2.2.2.2.2.2.2.2.2.2.2.2.2 | exact ((hpr.ext hq).cell hlt).2.1 | exact ((hpr.ext hq).cell hlt).2.2)
        case hs6 =>
          repeat' (first
            | exact FSteps.nil
            | refine FSteps.cons ?_ ?_
            | (refine FStep.off_ _ _ _ rfl rfl ?_ (fun _ => rfl) ?_; (focus (intro u w hd; simp [vOf, is, Region.binds] at hd; simp [hd])); (intro w'; exact rfl); done)
            | ((first
                | refine FStep.plain rfl ?_
                | (refine FStep.on_ _ _ _ rfl rfl ?_ ?_; (focus (intro u w hd; simp [vOf, is, Region.binds] at hd; simp [hd]))))
               intro u w hW hC hd K hK
               (try simp [vOf, is, Region.binds] at hd)
               simp only [upd, Nat.reduceEqDiff, if_true, if_false] at hK
               (try simp only [hd] at hK)
               go_simp
               (first
                 | (refine hK _ _ ?_ ?_; (first | exact rfl); (repeat (first | exact Ext.refl _ | assumption | apply Ext.alloc | apply Ext.drew | apply Ext.drewN | (refine Ext.trans ?_ (by assumption))))))))
        case hV6 => (simp only [List.forall_mem_cons]; simp [stable_is])
        case fin6 =>
          intro u w2 hW2 hC2 hd
          simp only [AllV, is] at hd
          simp only [hd]
          clear hd
          clear hC2 fb hx0 hy0
          go_wp2
          go_roundw
          case rel => exact ⟨k + 1, by omega, by go_num, by (repeat (first | exact Ext.refl _ | assumption | apply Ext.alloc | apply Ext.drew | apply Ext.drewN | (refine Ext.trans ?_ (by assumption)))), fun j hj => by by_cases e : j = k; (subst e; exact HO.out); exact HR.out j (by omega)⟩
          case measure => simp [intOf]; omega
    · have HV := hide (show isCorV l px py = -1 from firstC_no l px py l.length 0 (fun j _ b => HR.out j (by omega)))
      go_wp2
      go_ret
      exact ⟨ret_int (by rw [HV.out]), by (repeat (first | exact Ext.refl _ | assumption | apply Ext.alloc | apply Ext.drew | apply Ext.drewN | (refine Ext.trans ?_ (by assumption))))⟩

set_option maxRecDepth 100000 in
set_option maxHeartbeats 1600000 in
theorem sDoubleArea_any (A : Option Addr) (l : List (Int × Int)) (c : Nat) (w : World) (hp : RPts w A l) (hn : l.length ≤ 1048576) :
    Calls Try.prog 35 #[.slice A l.length c] w fun e w' => e = .returned (.int .i64 (dblV l)) ∧ Ext w w' := by
  by_cases h : l.length ≤ 10
  · go_enter Try.func35, Try.ntmps35
    go_wp2
    go_loopw [3] (fun i wr => ∃ k : Nat, k ≤ l.length ∧ i = .int .i64 k ∧ Ext w wr ∧ Hid (allok (l.take k) = true)) (fun i _ => l.length - (intOf i).toNat)
    case atStart => exact ⟨0, Nat.zero_le _, rfl, Ext.refl _, rfl⟩
    case round =>
      obtain ⟨k, hk, rfl, hbl, HOK⟩ := hrel
      obtain ⟨wq, rfl⟩ : ∃ wq : World, wq = wr := ⟨_, rfl⟩
      by_cases hlt : k < l.length
      · have hpr : RPts wq A l := hp.ext (by (repeat (first | exact Ext.refl _ | assumption | apply Ext.alloc | apply Ext.drew | apply Ext.drewN | (refine Ext.trans ?_ (by assumption)))))
        obtain ⟨b, off, rfl⟩ := hpr.some_ (by omega)
        obtain ⟨hz, hx0, hy0⟩ := hpr.cell hlt
        have hlen : ¬ (10 < l.length) := by omega
        cases ho : pok (gx l k) (gy l k)
        · have HV := hide (show dblV l = 0 by unfold dblV; rw [if_pos h, allok_false _ _ hlt ho]; rfl)
          go_wp2_with (go_at_call 57; refine (spok_any _ _ _).mono ?_; rintro e w1 ⟨rfl, hb⟩)
          go_ret
          exact ⟨ret_int (by rw [HV.out]), by (repeat (first | exact Ext.refl _ | assumption | apply Ext.alloc | apply Ext.drew | apply Ext.drewN | (refine Ext.trans ?_ (by assumption))))⟩
        · have HO := hide ho
          go_wp2_with (go_at_call 57; refine (spok_any _ _ _).mono ?_; rintro e w1 ⟨rfl, hb⟩)
          go_roundw
          case rel => exact ⟨k + 1, by omega, by go_num, by (repeat (first | exact Ext.refl _ | assumption | apply Ext.alloc | apply Ext.drew | apply Ext.drewN | (refine Ext.trans ?_ (by assumption)))), by unfold Hid; rw [allok_take_succ _ _ hlt, HOK.out, HO.out]; rfl⟩
          case measure => simp [intOf]; omega
      · have ha : allok l = true := by
          have e : l.take k = l := List.take_of_length_le (by omega)
          have := HOK.out
          rwa [e] at this
        have HV := hide (show dblV l = areaZ l by unfold dblV; rw [if_pos h, if_pos ha])
        have hf : Fine l := ⟨ha, h⟩
        go_wp2_with (go_at_call 58; refine (sArea_any _ _ _ _ (hp.ext (by (repeat (first | exact Ext.refl _ | assumption | apply Ext.alloc | apply Ext.drew | apply Ext.drewN | (refine Ext.trans ?_ (by assumption)))))) hf).mono ?_; rintro e w2 ⟨rfl, hb2⟩)
        go_ret
        exact ⟨ret_int (by rw [HV.out]), by (repeat (first | exact Ext.refl _ | assumption | apply Ext.alloc | apply Ext.drew | apply Ext.drewN | (refine Ext.trans ?_ (by assumption))))⟩
  · have HV := hide (show dblV l = 0 by unfold dblV; rw [if_neg h])
    obtain ⟨b, off, rfl⟩ := hp.some_ (by omega)
    obtain ⟨hz, hx0, hy0⟩ := hp.cell (show 0 < l.length by omega)
    simp only [Nat.zero_mul, Nat.add_zero] at hx0 hy0
    have hlen : 10 < l.length := by omega
    have hl0 : 0 < l.length := by omega
    go_enter Try.func35, Try.ntmps35
    go_wp2
    go_loopw [3] (fun i wr => i = .int .i64 0 ∧ w = wr) (fun _ _ => 0)
    case atStart => exact ⟨rfl, rfl⟩
    case round =>
      obtain ⟨rfl, rfl⟩ := hrel
      cases ho : pok (gx l 0) (gy l 0)
      all_goals
        go_wp2_with (go_at_call 57; refine (spok_any _ _ _).mono ?_; rintro e w1 ⟨rfl, hb⟩)
        go_ret
        exact ⟨ret_int (by rw [HV.out]), by (repeat (first | exact Ext.refl _ | assumption | apply Ext.alloc | apply Ext.drew | apply Ext.drewN | (refine Ext.trans ?_ (by assumption))))⟩

end Go.Proofs.Ytlghppkifccakaa
