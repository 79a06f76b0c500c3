/-
  Contracts: the draws of the statements: the cursor, a byte, a number below n, points, walls.
-/
import Derived.Test.YtnomiefjefopbaaPt
import Derived.Test.YtnomiefjefopbaaApp
import Derived.Test.YtnomiefjefopbaaLate
namespace Go.Proofs.Ytnomiefjefopbaa
open Go.RowKit

theorem and_mask (x : Int) (m : Nat) (hm : m < 4294967296) : 0 ≤ bits .and .i64 x (m : Int) ∧ bits .and .i64 x (m : Int) ≤ (m : Int) := by
  have e : bits .and .i64 x (m : Int) = IntKind.i64.wrap ((BitVec.ofInt 64 x &&& BitVec.ofInt 64 (m : Int)).toNat : Int) := rfl
  have h1 : (BitVec.ofInt 64 x &&& BitVec.ofInt 64 (m : Int)).toNat ≤ m := by
    rw [BitVec.toNat_and]
    refine Nat.le_trans Nat.and_le_right ?_
    rw [BitVec.toNat_ofInt]
    omega
  rw [e, wrap_in _ (by omega) (by omega)]
  omega

/-- a cursor over the n bytes at B, in block g -/
def Cur (w : World) (g : Nat) (B : Option Addr) (n c : Nat) : Prop :=
  ∃ i h : Int, w.heap[g]? = some (.cells #[.slice B n c, .int .i64 i, .int .i64 h] 46 (0, 0)) ∧ 0 ≤ i ∧ i ≤ (n : Int)
/-- n bytes -/
def RB (w : World) (B : Option Addr) (n : Nat) : Prop :=
  0 < n → ∃ b off, B = some ⟨b, off, none⟩ ∧ b < w.heap.size ∧ ∀ k, k < n → ∃ x : Int, w.cell? ⟨b, off + k, none⟩ = some (.int .u8 x) ∧ 0 ≤ x ∧ x ≤ 255
theorem RB.ext {w w' : World} {B : Option Addr} {n : Nat} (h : RB w B n) (hx : Ext w w') : RB w' B n := fun hn =>
  let ⟨b, off, e, h1, h2⟩ := h hn
  ⟨b, off, e, Nat.lt_of_lt_of_le h1 hx.size, fun k hk => let ⟨x, h3, h4⟩ := h2 k hk; ⟨x, (hx.cells _ _ h1).trans h3, h4⟩⟩

set_option maxRecDepth 100000 in
set_option maxHeartbeats 1600000 in
theorem l01New_any (B : Option Addr) (n c : Nat) (w : World) (hb : RB w B n) (hn : n ≤ 1048576) :
    Calls Try.prog 17 #[.slice B n c] w fun e w' => e = .returned (.pointer (some ⟨w.heap.size, 0, none⟩)) ∧ Cur w' w.heap.size B n c ∧ Ext w w' := by
  go_enter Try.func17, Try.ntmps17
  go_wp2
  go_loop [3, 4] (fun h i => ∃ (k : Nat) (x : Int), k ≤ n ∧ i = .int .i64 k ∧ h = .int .i64 x) (fun _ i => n - (intOf i).toNat)
  case atStart => exact ⟨0, _, Nat.zero_le _, rfl, rfl⟩
  case round =>
    obtain ⟨k, x, hk, rfl, rfl⟩ := hrel
    by_cases hlt : k < n
    · obtain ⟨b, off, rfl, hz, hcs⟩ := hb (by omega)
      obtain ⟨y, hy, _, _⟩ := hcs k hlt
      clear hcs
      by_cases h4 : k < 4000
      · go_wp2
        go_round
        case rel => exact ⟨k + 1, _, by omega, by go_num, rfl⟩
        case measure => simp [intOf]; omega
      · go_wp2
        go_ret
        exact ⟨rfl, ⟨0, x, heap_alloc_new w _, by omega, by omega⟩, (Ext.refl w).alloc _⟩
    · go_wp2
      go_ret
      exact ⟨rfl, ⟨0, x, heap_alloc_new w _, by omega, by omega⟩, (Ext.refl w).alloc _⟩

/-- w' is w with new blocks; of the old ones block g alone may have turned. -/
structure Only (g : Nat) (w w' : World) : Prop where
  os : w'.os = w.os
  tape : w'.tape = w.tape
  output : w'.output = w.output
  size : w.heap.size ≤ w'.heap.size
  block : ∀ k, k < w.heap.size → k ≠ g → w'.heap[k]? = w.heap[k]?

section
variable {g : Nat} {w a b : World}
theorem Only.of_ext (h : Ext w a) : Only g w a := ⟨h.below.os, h.below.tape, h.below.output, h.size, fun k hk _ => h.below.block k hk⟩
theorem Only.refl (w : World) : Only g w w := Only.of_ext (Ext.refl w)
theorem Only.trans (h : Only g w a) (k : Only g a b) : Only g w b :=
  ⟨k.os.trans h.os, k.tape.trans h.tape, k.output.trans h.output, Nat.le_trans h.size k.size, fun q hq hr => (k.block q (Nat.lt_of_lt_of_le hq h.size) hr).trans (h.block q hq hr)⟩
theorem Only.ext (h : Only g w a) (hx : Ext a b) : Only g w b := h.trans (Only.of_ext hx)
theorem Only.set (h : Only g w a) (o : Nat) (u : Value) : Only g w (a.setCell ⟨g, o, none⟩ u) :=
  ⟨h.os, h.tape, h.output, by rw [size_setCell]; exact h.size, fun k hk hr => (Below.heap_setCell _ _ _ _ (fun e => hr e)).trans (h.block k hk hr)⟩
theorem Only.setNew (h : Only g w a) {q : Nat} (hq : w.heap.size ≤ q) (o : Nat) (u : Value) : Only g w (a.setCell ⟨q, o, none⟩ u) :=
  ⟨h.os, h.tape, h.output, by rw [size_setCell]; exact h.size, fun k hk hr => (Below.heap_setCell _ _ _ _ (by intro e; simp at e; omega)).trans (h.block k hk hr)⟩
theorem Only.cell (h : Only g w a) {q : Nat} (hq : q < w.heap.size) (hr : q ≠ g) (o : Nat) : a.cell? ⟨q, o, none⟩ = w.cell? ⟨q, o, none⟩ := World.cell?_of_block (w := w) (a := ⟨q, o, none⟩) (h.block q hq hr)
theorem Only.below {B : Nat} (h : Only g w a) (hB : B ≤ g) (hs : B ≤ w.heap.size) : Below B w a := ⟨h.os, h.tape, h.output, h.size, fun k hk => h.block k (by omega) (by omega)⟩
end

/-- what a draw leaves: a number from 0 to m -/
def BelowP (g : Nat) (B : Option Addr) (n c : Nat) (m : Int) (w : World) (e : Ending) (w' : World) : Prop :=
  ∃ x : Int, (0 ≤ x ∧ x ≤ m) ∧ e = .returned (.int .i64 x) ∧ Cur w' g B n c ∧ Only g w w'

theorem RB.only {w w' : World} {B : Option Addr} {n g : Nat} (h : RB w B n) (hx : Only g w w') (hne : 0 < n → ∀ b off, B = some ⟨b, off, none⟩ → b ≠ g) : RB w' B n := fun hn =>
  let ⟨b, off, e, h1, h2⟩ := h hn
  ⟨b, off, e, Nat.lt_of_lt_of_le h1 hx.size, fun k hk => let ⟨x, h3, h4⟩ := h2 k hk; ⟨x, (hx.cell h1 (hne hn b off e) _).trans h3, h4⟩⟩

theorem cur_h {w : World} {g : Nat} {B : Option Addr} {n c : Nat} {i h : Int} (y : Int) (hb : w.heap[g]? = some (.cells #[.slice B n c, .int .i64 i, .int .i64 h] 46 (0, 0))) :
    (w.setCell ⟨g, 2, none⟩ (.int .i64 y)).heap[g]? = some (.cells #[.slice B n c, .int .i64 i, .int .i64 y] 46 (0, 0)) := by
  simp [World.setCell, Array.getElem?_modify, hb]
theorem cur_i {w : World} {g : Nat} {B : Option Addr} {n c : Nat} {i h : Int} (y : Int) (hb : w.heap[g]? = some (.cells #[.slice B n c, .int .i64 i, .int .i64 h] 46 (0, 0))) :
    (w.setCell ⟨g, 1, none⟩ (.int .i64 y)).heap[g]? = some (.cells #[.slice B n c, .int .i64 y, .int .i64 h] 46 (0, 0)) := by
  simp [World.setCell, Array.getElem?_modify, hb]
theorem cur_cells {w : World} {g : Nat} {B : Option Addr} {n c : Nat} {i h : Int} (hb : w.heap[g]? = some (.cells #[.slice B n c, .int .i64 i, .int .i64 h] 46 (0, 0))) :
    g < w.heap.size ∧ w.cell? ⟨g, 0, none⟩ = some (.slice B n c) ∧ w.cell? ⟨g, 1, none⟩ = some (.int .i64 i) ∧ w.cell? ⟨g, 2, none⟩ = some (.int .i64 h) ∧ w.frozen? ⟨g, 1, none⟩ = false ∧ w.frozen? ⟨g, 2, none⟩ = false := by
  refine ⟨?_, ?_, ?_, ?_, ?_, ?_⟩
  · rcases Nat.lt_or_ge g w.heap.size with h2 | h2
    · exact h2
    · rw [Array.getElem?_eq_none h2] at hb; cases hb
  all_goals simp [World.cell?, World.frozen?, hb]

set_option maxRecDepth 100000 in
set_option maxHeartbeats 3200000 in
theorem l01Byte_any (g : Nat) (B : Option Addr) (n c : Nat) (w : World) (hc : Cur w g B n c) (hb : RB w B n) (hn : n ≤ 1048576) (hne : 0 < n → ∀ b off, B = some ⟨b, off, none⟩ → b ≠ g) :
    Calls Try.prog 31 #[.pointer (some ⟨g, 0, none⟩)] w (BelowP g B n c 255 w) := by
  obtain ⟨i, h, hblk, hi0, hin⟩ := hc
  obtain ⟨i, rfl⟩ := Int.eq_ofNat_of_zero_le hi0
  obtain ⟨a1, a2, a3, a4, a5, a6⟩ := cur_cells hblk
  go_enter Try.func31, Try.ntmps31
  go_wp2
  clear a2 a3 a4 a5 a6
  generalize wrap64 (h * 6364136223846793005) = y0
  generalize wrap64 (y0 + 1442695040888963407) = y
  have hch1 : Only g w (w.setCell ⟨g, 2, none⟩ (.int .i64 y)) := (Only.refl w).set 2 _
  have hb1 := hb.only hch1 hne
  have hblk1 := cur_h y hblk
  clear hblk hb
  generalize w.setCell ⟨g, 2, none⟩ (.int .i64 y) = w1 at hch1 hb1 hblk1 ⊢
  obtain ⟨a1, a2, a3, a4, a5, a6⟩ := cur_cells hblk1
  clear a5 a6
  have hgz := a1
  go_wp2
  refine wp_flow (by kernel_rfl) (by kernel_rfl) (fun u => ⟨#[_, _, _, u 12, _, _, _, _, _, _, _, _, _, u 0, u 1, u 2, u 3, u 4, u 5, u 6, u 7, u 8, u 9, u 10, u 11, _, _, _, _, _, _, _, _, _, _, _, _, _, _, _, _, _, _, _, _, _, _, _, _, _, _, _, _, _, _, _, _, _], _⟩) (fun i => List.getD [_, _, _, _, _, _, _, _, _, _, _, _, _] i undef) [is ?v1_0, is ?v1_1, is ?v1_2, is ?v1_3, is ?v1_4, is ?v1_5, is ?v1_6, is ?v1_7, is ?v1_8, is ?v1_9, is ?v1_10, is ?v1_11, is ?v1_12] (fun w' => w'.cell? ⟨g, 0, none⟩ = some (.slice B n c) ∧ w'.cell? ⟨g, 1, none⟩ = some (.int .i64 i) ∧ w'.cell? ⟨g, 2, none⟩ = some (.int .i64 y)) _ rfl ?hC1 ?hs1 ?hV1 ?fin1
  case hC1 => (intro w' hx; and_intros <;> (first | (refine (Eq.trans (hx.cells _ _ ?_) ?_) <;> first | assumption | omega | (simp; done) | (simp; omega) | (simp [go_sem, World.cell?_alloc_past, *]; done)) | (have hz := hx.size; first | omega | (simp at hz; omega))))
  case hs1 =>
    repeat' (first
      | exact FSteps.nil
      | refine FSteps.cons ?_ ?_
      | (refine FStep.off_ _ _ _ rfl rfl ?_ (fun _ => rfl) ?_; (focus (intro u w hd; simp [vOf, is, Region.binds] at hd; simp [hd])); (intro w'; exact rfl); done)
      | ((first
          | refine FStep.plain rfl ?_
          | (refine FStep.on_ _ _ _ rfl rfl ?_ ?_; (focus (intro u w hd; simp [vOf, is, Region.binds] at hd; simp [hd]))))
         intro u w hW hC hd K hK
         (try simp [vOf, is, Region.binds] at hd)
         simp only [upd, Nat.reduceEqDiff, if_true, if_false] at hK
         (try simp only [hd] at hK)
         go_simp
         (first
           | (refine hK _ _ ?_ ?_; (first | exact rfl); (repeat (first | exact Ext.refl _ | assumption | apply Ext.alloc | apply Ext.drew | apply Ext.drewN | (refine Ext.trans ?_ (by assumption))))))))
  case hV1 => (simp only [List.forall_mem_cons]; simp [stable_is])
  case fin1 =>
    intro u w2 hW2 hC2 hd
    simp only [AllV, is] at hd
    simp only [hd]
    clear hd
    obtain ⟨wa, rfl⟩ : ∃ wa : World, wa = w2 := ⟨_, rfl⟩
    obtain ⟨x, hx⟩ : ∃ x, x = bits .and .i64 (bits .xor .i64 (y / 8589934592) (y / 35184372088832)) 255 := ⟨_, rfl⟩
    have hxm := and_mask (bits .xor .i64 (y / 8589934592) (y / 35184372088832)) 255 (by omega)
    have hchA := hch1.ext hW2
    have hbA := hb1.ext hW2
    have hblkA := (hW2.below.block g hgz).trans hblk1
    simp only [Int.cast_ofNat_Int] at hxm
    rw [← hx] at hxm ⊢
    clear hx hC2 hW2 hch1 hb1 hblk1 a2 a3 a4 a1 hgz
    obtain ⟨a1, a2, a3, a4, a5, a6⟩ := cur_cells hblkA
    clear a5 a6
    have hgz := a1
    by_cases hlt : i < n
    · obtain ⟨b, off, rfl, hz, hcs⟩ := hbA (by omega)
      obtain ⟨v, hv, hv0, hv1⟩ := hcs i hlt
      clear hcs
      have i1 : (0 : Int) ≤ (i : Int) := by omega
      have i2 : (i : Int) < (n : Int) := by omega
      go_wp2
      refine wp_flow (by kernel_rfl) (by kernel_rfl) (fun u => ⟨#[_, _, _, _, _, _, _, _, _, _, _, _, _, _, _, _, _, _, _, _, _, _, _, _, _, u 0, u 1, u 2, u 3, u 4, u 5, u 6, u 7, u 8, u 9, _, _, _, _, _, _, _, _, _, _, _, _, _, _, _, _, _, _, _, _, _, _, _], _⟩) (fun i => List.getD [_, _, _, _, _, _, _, _, _, _] i undef) [is ?v2_0, is ?v2_1, is ?v2_2, is ?v2_3, is ?v2_4, is ?v2_5, is ?v2_6, is ?v2_7, is ?v2_8, is ?v2_9] (fun w' => w'.cell? ⟨g, 0, none⟩ = some (.slice (some ⟨b, off, none⟩) n c) ∧ w'.cell? ⟨g, 1, none⟩ = some (.int .i64 i) ∧ w'.cell? ⟨g, 2, none⟩ = some (.int .i64 y) ∧ w'.cell? ⟨b, off + i, none⟩ = some (.int .u8 v)) _ rfl ?hC2 ?hs2 ?hV2 ?fin2
      case hC2 => (intro w' hx; and_intros <;> (first | (refine (Eq.trans (hx.cells _ _ ?_) ?_) <;> first | assumption | omega | (simp; done) | (simp; omega) | (simp [go_sem, World.cell?_alloc_past, *]; done)) | (have hz := hx.size; first | omega | (simp at hz; omega))))
      case hs2 =>
        repeat' (first
          | exact FSteps.nil
          | refine FSteps.cons ?_ ?_
          | (refine FStep.off_ _ _ _ rfl rfl ?_ (fun _ => rfl) ?_; (focus (intro u w hd; simp [vOf, is, Region.binds] at hd; simp [hd])); (intro w'; exact rfl); done)
          | ((first
              | refine FStep.plain rfl ?_
              | (refine FStep.on_ _ _ _ rfl rfl ?_ ?_; (focus (intro u w hd; simp [vOf, is, Region.binds] at hd; simp [hd]))))
             intro u w hW hC hd K hK
             (try simp [vOf, is, Region.binds] at hd)
             simp only [upd, Nat.reduceEqDiff, if_true, if_false] at hK
             (try simp only [hd] at hK)
             go_simp
             (first
               | (refine hK _ _ ?_ ?_; (first | exact rfl); (repeat (first | exact Ext.refl _ | assumption | apply Ext.alloc | apply Ext.drew | apply Ext.drewN | (refine Ext.trans ?_ (by assumption))))))))
      case hV2 => (simp only [List.forall_mem_cons]; simp [stable_is])
      case fin2 =>
        intro u w2 hW2 hC2 hd
        simp only [AllV, is] at hd
        simp only [hd]
        clear hd
        obtain ⟨wb, rfl⟩ : ∃ wb : World, wb = w2 := ⟨_, rfl⟩
        have hblkB := (hW2.below.block g hgz).trans hblkA
        have hchB := hchA.ext hW2
        have hbg : b ≠ g := hne (by omega) b off rfl
        have hvB := hC2.2.2.2
        have hzB : b < wb.heap.size := Nat.lt_of_lt_of_le hz hW2.size
        clear hC2 hW2 hchA hbA hblkA a1 a2 a3 a4 hv hz hgz
        obtain ⟨a1, a2, a3, a4, a5, a6⟩ := cur_cells hblkB
        clear a5 a6
        have hgz := a1
        go_wp2
        refine wp_late (by kernel_rfl) (by kernel_rfl) (fun u => ⟨#[_, _, _, u 14, _, _, _, _, _, _, _, _, _, _, _, _, _, _, _, _, _, _, _, _, _, _, _, _, _, _, _, _, _, _, _, u 0, u 1, u 2, u 3, u 4, u 5, u 6, u 7, u 8, u 9, u 10, u 11, u 12, u 13, _, _, _, _, _, _, _, _, _], _⟩) (fun i => List.getD [_, _, _, _, _, _, _, _, _, _, _, _, _, _, _] i undef) [is ?v3_0, is ?v3_1, is ?v3_2, is ?v3_3, is ?v3_4, is ?v3_5, is ?v3_6, is ?v3_7, is ?v3_8, is ?v3_9, is ?v3_10, is ?v3_11, is ?v3_12, is ?v3_13, is ?v3_14] (fun w' => w'.cell? ⟨g, 0, none⟩ = some (.slice (some ⟨b, off, none⟩) n c) ∧ w'.cell? ⟨g, 1, none⟩ = some (.int .i64 i) ∧ w'.cell? ⟨g, 2, none⟩ = some (.int .i64 y) ∧ w'.cell? ⟨b, off + i, none⟩ = some (.int .u8 v)) _ rfl ?hC3 ?hs3 ?hV3 ?fin3
        case hC3 => (intro w' hx; and_intros <;> (first | (refine (Eq.trans (hx.cells _ _ ?_) ?_) <;> first | assumption | omega | (simp; done) | (simp; omega) | (simp [go_sem, World.cell?_alloc_past, *]; done)) | (have hz := hx.size; first | omega | (simp at hz; omega))))
        case hs3 =>
          repeat' (first
            | exact LSteps.nil
            | refine LSteps.cons ?_ ?_
            | ((first
                | refine LStep.plain rfl ?_)
               intro u w hW hC hd hu K hK
               (try (have hl14 := hu 14 (by decide +kernel); simp at hl14; (try simp only [upd, Nat.reduceEqDiff, if_true, if_false] at hK); simp only [hl14] at hK ⊢))
               (try simp [vOf, is, Region.binds] at hd)
               (try simp only [upd, Nat.reduceEqDiff, if_true, if_false] at hK)
               (try simp only [hd] at hK)
               go_simp
               (first
                 | (refine hK _ _ ?_ ?_; (first | exact rfl); (repeat (first | exact Ext.refl _ | assumption | apply Ext.alloc | apply Ext.drew | apply Ext.drewN | (refine Ext.trans ?_ (by assumption))))))))
        case hV3 => (simp only [List.forall_mem_cons]; simp [stable_is])
        case fin3 =>
          intro u w2 hW2 hC2 hd
          simp only [AllV, is] at hd
          simp only [hd]
          clear hd
          have hblkC := (hW2.below.block g hgz).trans hblkB
          have hchC := hchB.ext hW2
          clear hC2 hW2 a1 a2 a3 a4 hblkB hchB hvB hgz
          obtain ⟨a1, a2, a3, a4, a5, a6⟩ := cur_cells hblkC
          go_wp2
          go_ret
          have hm : ∀ q, 0 ≤ bits .and .i64 q 255 ∧ bits .and .i64 q 255 ≤ 255 := fun q => by
            have := and_mask q 255 (by omega)
            simpa only [Int.cast_ofNat_Int] using this
          exact ⟨_, hm _, rfl, ⟨(i : Int) + 1, y, cur_i _ hblkC, by omega, by omega⟩, hchC.set 1 _⟩
    · have i2 : ¬ (i : Int) < (n : Int) := by omega
      go_wp2
      refine wp_flow (by kernel_rfl) (by kernel_rfl) (fun u => ⟨#[_, _, _, _, _, _, _, _, _, _, _, _, _, _, _, _, _, _, _, _, _, _, _, _, _, u 0, u 1, u 2, u 3, u 4, u 5, u 6, u 7, u 8, u 9, _, _, _, _, _, _, _, _, _, _, _, _, _, _, _, _, _, _, _, _, _, _, _], _⟩) (fun i => List.getD [_, _, _, _, _, _, _, _, _, _] i undef) [is ?v4_0, is ?v4_1, is ?v4_2, is ?v4_3, is ?v4_4, is ?v4_5, is ?v4_6, is ?v4_7, is ?v4_8, is ?v4_9] (fun w' => w'.cell? ⟨g, 0, none⟩ = some (.slice B n c) ∧ w'.cell? ⟨g, 1, none⟩ = some (.int .i64 i) ∧ w'.cell? ⟨g, 2, none⟩ = some (.int .i64 y)) _ rfl ?hC4 ?hs4 ?hV4 ?fin4
      case hC4 => (intro w' hx; and_intros <;> (first | (refine (Eq.trans (hx.cells _ _ ?_) ?_) <;> first | assumption | omega | (simp; done) | (simp; omega) | (simp [go_sem, World.cell?_alloc_past, *]; done)) | (have hz := hx.size; first | omega | (simp at hz; omega))))
      case hs4 =>
        repeat' (first
          | exact FSteps.nil
          | refine FSteps.cons ?_ ?_
          | (refine FStep.off_ _ _ _ rfl rfl ?_ (fun _ => rfl) ?_; (focus (intro u w hd; simp [vOf, is, Region.binds] at hd; simp [hd])); (intro w'; exact rfl); done)
          | ((first
              | refine FStep.plain rfl ?_
              | (refine FStep.on_ _ _ _ rfl rfl ?_ ?_; (focus (intro u w hd; simp [vOf, is, Region.binds] at hd; simp [hd]))))
             intro u w hW hC hd K hK
             (try simp [vOf, is, Region.binds] at hd)
             simp only [upd, Nat.reduceEqDiff, if_true, if_false] at hK
             (try simp only [hd] at hK)
             go_simp
             (first
               | (refine hK _ _ ?_ ?_; (first | exact rfl); (repeat (first | exact Ext.refl _ | assumption | apply Ext.alloc | apply Ext.drew | apply Ext.drewN | (refine Ext.trans ?_ (by assumption))))))))
      case hV4 => (simp only [List.forall_mem_cons]; simp [stable_is])
      case fin4 =>
        intro u w2 hW2 hC2 hd
        simp only [AllV, is] at hd
        simp only [hd]
        clear hd
        have hblkB := (hW2.below.block g hgz).trans hblkA
        have hchB := hchA.ext hW2
        clear hC2 a2 a3 a4
        go_wp2
        go_ret
        exact ⟨x, hxm, rfl, ⟨i, y, hblkB, by omega, by omega⟩, hchB⟩

set_option maxRecDepth 100000 in
theorem l01Below_any (g : Nat) (B : Option Addr) (n c m : Nat) (w : World) (hc : Cur w g B n c) (hb : RB w B n) (hn : n ≤ 1048576) (hne : 0 < n → ∀ b off, B = some ⟨b, off, none⟩ → b ≠ g) (h0 : 0 < m) (h1 : m ≤ 256) :
    Calls Try.prog 27 #[.pointer (some ⟨g, 0, none⟩), .int .i64 m] w (BelowP g B n c ((m : Int) - 1) w) := by
  go_enter Try.func27, Try.ntmps27
  go_wp2_with fail
  refine (l01Byte_any g B n c _ hc hb hn hne).mono ?_
  rintro e w1 ⟨x, ⟨x0, x1⟩, rfl, hc1, hch⟩
  have hm0 : m ≠ 0 := by omega
  have e1 : x.tmod (m : Int) = x % (m : Int) := Int.tmod_eq_emod_of_nonneg x0
  have e2 := Int.emod_nonneg x (show (m : Int) ≠ 0 by omega)
  have e3 := Int.emod_lt_of_pos x (show 0 < (m : Int) by omega)
  have z := wrap_in (x % (m : Int)) (by omega) (by omega)
  go_wp2
  go_ret
  exact ⟨_, ⟨e2, by omega⟩, rfl, hc1, hch⟩

/-- what a point's draw leaves -/
def PointP (g : Nat) (B : Option Addr) (n c : Nat) (w : World) (e : Ending) (w' : World) : Prop :=
  ∃ x y : Int, ((-2 ≤ x ∧ x ≤ 6) ∧ (-2 ≤ y ∧ y ≤ 6)) ∧ e = .returned (.agg #[.int .i64 x, .int .i64 y]) ∧ Cur w' g B n c ∧ Only g w w'

set_option maxRecDepth 100000 in
set_option maxHeartbeats 800000 in
theorem l02Point_any (g : Nat) (B : Option Addr) (n c : Nat) (w : World) (hc : Cur w g B n c) (hb : RB w B n) (hn : n ≤ 1048576) (hne : 0 < n → ∀ b off, B = some ⟨b, off, none⟩ → b ≠ g) (hg : g < w.heap.size) :
    Calls Try.prog 18 #[.pointer (some ⟨g, 0, none⟩)] w (PointP g B n c w) := by
  have hcA : Cur (w.alloc (.cells #[.int .i64 0, .int .i64 0] 25)) g B n c := by
    obtain ⟨i, h, h1, h2⟩ := hc
    exact ⟨i, h, (((Ext.refl w).alloc _).below.block g hg).trans h1, h2⟩
  have hbA := hb.ext (show Ext w (w.alloc (.cells #[.int .i64 0, .int .i64 0] 25)) by (repeat (first | exact Ext.refl _ | assumption | apply Ext.alloc | apply Ext.drew | apply Ext.drewN | (refine Ext.trans ?_ (by assumption)))))
  go_enter Try.func18, Try.ntmps18
  go_wp2_with fail
  refine (l01Below_any g B n c 9 _ hcA hbA hn hne (by omega) (by omega)).mono ?_
  rintro e w1 ⟨x, ⟨x0, x1⟩, rfl, hc1, o1⟩
  have hb1 := hbA.only o1 hne
  go_wp2_with fail
  refine (l01Below_any g B n c 9 _ hc1 hb1 hn hne (by omega) (by omega)).mono ?_
  rintro e w2 ⟨y, ⟨y0, y1⟩, rfl, hc2, o2⟩
  have hgq : w.heap.size ≠ g := by omega
  have hA : (w.alloc (.cells #[.int .i64 0, .int .i64 0] 25)).heap.size = w.heap.size + 1 := by simp
  have hs1 := o1.size
  have hs2 := o2.size
  have hblk : w2.heap[w.heap.size]? = some (.cells #[.int .i64 0, .int .i64 0] 25 (0, 0)) := (o2.block _ (by omega) hgq).trans ((o1.block _ (by omega) hgq).trans (heap_alloc_new w _))
  have hlt2 : w.heap.size < w2.heap.size := by omega
  have b0 : w2.cell? ⟨w.heap.size, 0, none⟩ = some (.int .i64 0) := by simp [World.cell?, hblk]
  have b1 : w2.cell? ⟨w.heap.size, 1, none⟩ = some (.int .i64 0) := by simp [World.cell?, hblk]
  have b2 : w2.frozen? ⟨w.heap.size, 0, none⟩ = false := by simp [World.frozen?, hblk]
  have b3 : w2.frozen? ⟨w.heap.size, 1, none⟩ = false := by simp [World.frozen?, hblk]
  have o3 : Only g w w2 := ((Only.of_ext ((Ext.refl w).alloc _)).trans o1).trans o2
  clear hA hs1 hs2 hblk hb1 hbA hcA
  go_wp2
  refine bodyPost_ret (v := .agg #[.int .i64 (x - 2), .int .i64 (y - 2)]) (by simp [results, Try.results18, go_sem, b0, b1]) rfl ⟨_, _, ⟨⟨?_, ?_⟩, ?_, ?_⟩, rfl, ?_, (o3.setNew (Nat.le_refl _) 0 _).setNew (Nat.le_refl _) 1 _⟩
  · omega
  · omega
  · omega
  · omega
  · obtain ⟨i, h, h1, h2⟩ := hc2
    exact ⟨i, h, ((Below.heap_setCell _ _ _ _ (by simpa using hgq.symm)).trans (Below.heap_setCell _ _ _ _ (by simpa using hgq.symm))).trans h1, h2⟩

/-- a draw of a bool -/
def OnceP (g : Nat) (B : Option Addr) (n c : Nat) (w : World) (e : Ending) (w' : World) : Prop :=
  ∃ b : Bool, e = .returned (.bool b) ∧ Cur w' g B n c ∧ Only g w w'

set_option maxRecDepth 100000 in
theorem l01Once_any (g : Nat) (B : Option Addr) (n c m : Nat) (w : World) (hc : Cur w g B n c) (hb : RB w B n) (hn : n ≤ 1048576) (hne : 0 < n → ∀ b off, B = some ⟨b, off, none⟩ → b ≠ g) (h0 : 0 < m) (h1 : m ≤ 256) :
    Calls Try.prog 24 #[.pointer (some ⟨g, 0, none⟩), .int .i64 m] w (OnceP g B n c w) := by
  go_enter Try.func24, Try.ntmps24
  go_wp2_with fail
  refine (l01Below_any g B n c m _ hc hb hn hne h0 h1).mono ?_
  rintro e w1 ⟨x, _, rfl, hc1, o1⟩
  go_wp2
  go_ret
  exact ⟨_, rfl, hc1, o1⟩

end Go.Proofs.Ytnomiefjefopbaa
