/-
  Contracts: the laws' marks in a slice of points, and whether they are still there; rooms.
-/
import Derived.Test.YtmccffmkfdcmmaaHelp
namespace Go.Proofs.Ytmccffmkfdcmmaa
open Go.RowKit

/-- Blocks in [lo, hi) may have turned, no other; none has come. -/
structure Chg (lo hi : Nat) (w w' : World) : Prop where
  os : w'.os = w.os
  tape : w'.tape = w.tape
  output : w'.output = w.output
  size : w'.heap.size = w.heap.size
  block : ∀ k, ¬ (lo ≤ k ∧ k < hi) → w'.heap[k]? = w.heap[k]?

theorem Chg.refl (lo hi : Nat) (w : World) : Chg lo hi w w := ⟨rfl, rfl, rfl, rfl, fun _ _ => rfl⟩
theorem Chg.set {lo hi : Nat} {a b : World} (h : Chg lo hi a b) {p : Addr} (h1 : lo ≤ p.block) (h2 : p.block < hi) (u : Value) : Chg lo hi a (b.setCell p u) :=
  ⟨h.os, h.tape, h.output, by rw [size_setCell]; exact h.size, fun k hk => (Below.heap_setCell _ _ _ _ (by omega)).trans (h.block k hk)⟩
theorem Chg.below {lo hi B : Nat} {a b : World} (h : Chg lo hi a b) (hB : B ≤ lo) : Below B a b := ⟨h.os, h.tape, h.output, by rw [h.size]; exact Nat.le_refl _, fun k hk => h.block k (by omega)⟩
theorem Chg.far {lo hi : Nat} {a b : World} (h : Chg lo hi a b) {g : Nat} (hg : g < lo ∨ hi ≤ g) (o : Nat) : b.cell? ⟨g, o, none⟩ = a.cell? ⟨g, o, none⟩ := World.cell?_of_block (w := a) (a := ⟨g, o, none⟩) (h.block g (by omega))
theorem OwnS.chg {lo hi lo' hi' : Nat} {a b : World} {T : TypeId} {A : Option Addr} {l : List (Int × Int)} (h : OwnS a lo' hi' T A l) (hc : Chg lo hi a b) (hd : hi' ≤ lo ∨ hi ≤ lo') : OwnS b lo' hi' T A l := fun hl =>
  let ⟨g, e, a1, a2, h3⟩ := h hl
  ⟨g, e, a1, a2, h3.same (hc.block g (by omega))⟩
theorem Pts.chg {lo hi lo' hi' : Nat} {a b : World} {A : Option Addr} {l : List (Int × Int)} (h : Pts a lo' hi' A l) (hc : Chg lo hi a b) (hd : hi' ≤ lo ∨ hi ≤ lo') : Pts b lo' hi' A l := fun hl =>
  let ⟨g, off, e, a1, a2, h3⟩ := h hl
  ⟨g, off, e, a1, a2, fun k hk => ⟨(hc.far (by omega) _).trans (h3 k hk).1, (hc.far (by omega) _).trans (h3 k hk).2⟩⟩

def markL (k0 : Int) (n : Nat) : List (Int × Int) := (List.range n).map fun (i : Nat) => (k0 + 2 * (i : Int), k0 + 2 * (i : Int) + 1)

theorem markL_length (k0 : Int) (n : Nat) : (markL k0 n).length = n := by simp [markL]
theorem gx_markL (k0 : Int) (n k : Nat) (h : k < n) : gx (markL k0 n) k = k0 + 2 * (k : Int) := by simp [gx, markL, List.getD_eq_getElem?_getD, h]
theorem gy_markL (k0 : Int) (n k : Nat) (h : k < n) : gy (markL k0 n) k = k0 + 2 * (k : Int) + 1 := by simp [gy, markL, List.getD_eq_getElem?_getD, h]

theorem markL_step (k0 : Int) (l : List (Int × Int)) (k : Nat) (h : k < l.length) : markL k0 (k + 1) ++ l.drop (k + 1) = (markL k0 k ++ l.drop k).set k (k0 + 2 * (k : Int), k0 + 2 * (k : Int) + 1) := by
  have e : (markL k0 k).length = k := markL_length k0 k
  rw [List.set_append_right _ _ (by omega), e, Nat.sub_self, List.drop_eq_getElem_cons h, List.set_cons_zero]
  unfold markL
  rw [List.range_succ, List.map_append, List.append_assoc]
  rfl

set_option maxRecDepth 100000 in
theorem markPointS_any (A : Option Addr) (l : List (Int × Int)) (c lo hi : Nat) (k0 : Int) (w : World) (h : OwnS w lo hi 35 A l) (hn : l.length ≤ 1048576) (h0 : 0 ≤ k0) (h1 : k0 ≤ 100000000) :
    Calls Try.prog 38 #[.slice A l.length c, .int .i64 k0] w fun e w' => e = .returned (.int .i64 (k0 + 2 * (l.length : Int))) ∧ Chg lo hi w w' ∧ OwnS w' lo hi 35 A (markL k0 l.length) := by
  by_cases hz : 0 < l.length
  · obtain ⟨g, rfl, g1, g2, hown⟩ := h hz
    clear h
    go_enter Try.func38, Try.ntmps38
    go_wp2
    go_loopw [1, 5] (fun q i wr => ∃ k : Nat, k ≤ l.length ∧ i = .int .i64 k ∧ q = .int .i64 (k0 + 2 * (k : Int)) ∧ Chg lo hi w wr ∧ OwnP wr g 35 (markL k0 k ++ l.drop k)) (fun _ i _ => l.length - (intOf i).toNat)
    case atStart => exact ⟨0, Nat.zero_le _, rfl, by simp, Chg.refl _ _ _, by simpa [markL] using hown⟩
    case round =>
      obtain ⟨k, hk, rfl, rfl, hch, ho⟩ := hrel
      clear hown
      by_cases hlt : k < l.length
      · have hlen : k < (markL k0 k ++ l.drop k).length := by simp [markL_length]; omega
        have c1 := ho.cellx hlen
        have c2 := ho.celly hlen
        have c3 := ho.frozen (k * 2)
        have c4 := ho.frozen (k * 2 + 1)
        go_wp2
        go_roundw
        case rel => exact ⟨k + 1, by omega, by go_num, by go_num, (hch.set (by simpa using g1) (by simpa using g2) _).set (by simpa using g1) (by simpa using g2) _, by rw [markL_step k0 l k hlt]; exact ho.setXY hlen _ _⟩
        case measure => simp [intOf]; omega
      · have e : k = l.length := by omega
        have E := hide e
        clear e
        go_wp2
        go_ret
        refine ⟨ret_int (by rw [E.out]), hch, fun _ => ⟨g, rfl, g1, g2, ?_⟩⟩
        rw [E.out] at ho
        simpa using ho
  · have e : l = [] := List.eq_nil_of_length_eq_zero (by omega)
    subst e
    clear h hz
    go_enter Try.func38, Try.ntmps38
    go_wp2
    go_loopw [1, 5] (fun q i wr => q = .int .i64 k0 ∧ i = .int .i64 0 ∧ w = wr) (fun _ i _ => 0)
    case atStart => exact ⟨rfl, rfl, rfl⟩
    case round =>
      obtain ⟨rfl, rfl, rfl⟩ := hrel
      go_wp2
      go_ret
      exact ⟨ret_int (by simp), Chg.refl _ _ _, OwnS.nil⟩

set_option maxRecDepth 100000 in
theorem heldPointS_any (A : Option Addr) (n c : Nat) (k0 : Int) (w : World) (h : RPts w A (markL k0 n)) (hn : n ≤ 1048576) (h0 : 0 ≤ k0) (h1 : k0 ≤ 100000000) :
    Calls Try.prog 39 #[.slice A n c, .int .i64 k0] w fun e w' => e = .returned (.int .i64 (k0 + 2 * (n : Int))) ∧ w = w' := by
  go_enter Try.func39, Try.ntmps39
  go_wp2
  go_loopw [1, 5] (fun q i wr => ∃ k : Nat, k ≤ n ∧ i = .int .i64 k ∧ q = .int .i64 (k0 + 2 * (k : Int)) ∧ w = wr) (fun _ i _ => n - (intOf i).toNat)
  case atStart => exact ⟨0, Nat.zero_le _, rfl, by simp, rfl⟩
  case round =>
    obtain ⟨k, hk, rfl, rfl, rfl⟩ := hrel
    by_cases hlt : k < n
    · obtain ⟨b, off, rfl, _, hx, hy⟩ := h.at_ (k := k) (by rw [markL_length]; exact hlt)
      rw [gx_markL k0 n k hlt] at hx
      rw [gy_markL k0 n k hlt] at hy
      go_wp2
      go_roundw
      case rel => exact ⟨k + 1, by omega, by go_num, by go_num, by first | rfl | trivial⟩
      case measure => simp [intOf]; omega
    · have e : k = n := by omega
      have E := hide e
      clear e
      go_wp2
      go_ret
      exact ⟨ret_int (by rw [E.out]), by first | rfl | trivial⟩

theorem markRoom_any (A : Option Addr) (l : List (Int × Int)) (c lo hi : Nat) (k0 : Int) (w : World) (h : OwnS w lo hi 35 A l) (hn : l.length ≤ 1048576) (h0 : 0 ≤ k0) (h1 : k0 ≤ 100000000) :
    Calls Try.prog 24 #[.agg #[.slice A l.length c], .int .i64 k0] w fun e w' => e = .returned (.int .i64 (k0 + 2 * (l.length : Int))) ∧ (∃ w0, Ext w w0 ∧ Chg lo hi w0 w') ∧ OwnS w' lo hi 35 A (markL k0 l.length) := by
  go_enter Try.func24, Try.ntmps24
  go_wp2_with (go_at_call 38; refine (markPointS_any _ _ _ lo hi _ _ (h.ext (by (repeat (first | exact Ext.refl _ | assumption | apply Ext.alloc | apply Ext.drew | apply Ext.drewN | (refine Ext.trans ?_ (by assumption)))))) hn h0 h1).mono ?_; rintro e w1 ⟨rfl, hc, ho⟩)
  go_ret
  exact ⟨rfl, ⟨_, by (repeat (first | exact Ext.refl _ | assumption | apply Ext.alloc | apply Ext.drew | apply Ext.drewN | (refine Ext.trans ?_ (by assumption)))), hc⟩, ho⟩

theorem heldRoom_any (A : Option Addr) (n c : Nat) (k0 : Int) (w : World) (h : RPts w A (markL k0 n)) (hn : n ≤ 1048576) (h0 : 0 ≤ k0) (h1 : k0 ≤ 100000000) :
    Calls Try.prog 42 #[.agg #[.slice A n c], .int .i64 k0] w fun e w' => e = .returned (.int .i64 (k0 + 2 * (n : Int))) ∧ Ext w w' := by
  go_enter Try.func42, Try.ntmps42
  go_wp2_with (go_at_call 39; refine (heldPointS_any _ _ _ _ _ (h.ext (by (repeat (first | exact Ext.refl _ | assumption | apply Ext.alloc | apply Ext.drew | apply Ext.drewN | (refine Ext.trans ?_ (by assumption)))))) hn h0 h1).mono ?_; rintro e w1 ⟨rfl, rfl⟩)
  go_ret
  exact ⟨rfl, by (repeat (first | exact Ext.refl _ | assumption | apply Ext.alloc | apply Ext.drew | apply Ext.drewN | (refine Ext.trans ?_ (by assumption))))⟩

theorem eqRoom_same (A B : Option Addr) (l : List (Int × Int)) (c d : Nat) (w : World) (ha : RPts w A l) (hb : RPts w B l) (hn : l.length ≤ 1048576) :
    Calls Try.prog 15 #[.agg #[.slice A l.length c], .agg #[.slice B l.length d]] w fun e w' => e = .returned (.bool true) ∧ Ext w w' := by
  go_enter Try.func15, Try.ntmps15
  go_wp2_with (go_at_call 37; refine (eqPointS_same _ _ _ _ _ _ (ha.ext (by (repeat (first | exact Ext.refl _ | assumption | apply Ext.alloc | apply Ext.drew | apply Ext.drewN | (refine Ext.trans ?_ (by assumption)))))) (hb.ext (by (repeat (first | exact Ext.refl _ | assumption | apply Ext.alloc | apply Ext.drew | apply Ext.drewN | (refine Ext.trans ?_ (by assumption)))))) hn).mono ?_; rintro e w1 ⟨rfl, hbb⟩)
  go_ret
  exact ⟨rfl, by (repeat (first | exact Ext.refl _ | assumption | apply Ext.alloc | apply Ext.drew | apply Ext.drewN | (refine Ext.trans ?_ (by assumption))))⟩

end Go.Proofs.Ytmccffmkfdcmmaa
