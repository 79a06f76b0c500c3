/-
  Diagonals that cross: the value; rows of numbers copied.
-/
import Derived.Test.YtmccffmkfdcmmaaSDiag2
import Derived.Test.YtmccffmkfdcmmaaMerge
import Derived.Test.YtmccffmkfdcmmaaRefl
namespace Go.Proofs.Ytmccffmkfdcmmaa
open Go.RowKit

/-- DoDiagonalsCross, as both texts give it -/
def ddV (l : List (Int × Int)) (a b : List Int) : Bool :=
  (a.length == 2 && (b.length == 2 && (diagB l (gi a 0) (gi a 1) && diagB l (gi b 0) (gi b 1)))) &&
    crossB (gx l (gi a 0).toNat) (gy l (gi a 0).toNat) (gx l (gi a 1).toNat) (gy l (gi a 1).toNat) (gx l (gi b 0).toNat) (gy l (gi b 0).toNat) (gx l (gi b 1).toNat) (gy l (gi b 1).toNat)

theorem diagB_at {l : List (Int × Int)} {i k : Int} (h : diagB l i k = true) : ∃ m p : Nat, i = m ∧ k = p ∧ m < l.length ∧ p < l.length ∧ roomB l = true := by
  unfold diagB at h
  simp only [Bool.and_eq_true] at h
  obtain ⟨m, h1, h2⟩ := inB_nat h.2.1
  obtain ⟨p, h3, h4⟩ := inB_nat h.2.2.1
  exact ⟨m, p, h1, h3, h2, h4, h.1⟩

theorem len_two (n : Nat) : (((n : Int)) != 2) = !(n == 2) := by
  rw [bne, show ((n : Int) == 2) = (n == 2) from nat_eq_cast n 2]

/-- a new row of n zeros -/
theorem ownI_made (w : World) (T : TypeId) (n : Nat) : OwnIB (w.alloc (.cells (madeCells #[.int .i64 0] (n * 1)) T)) w.heap.size T (List.replicate n 0) := by
  refine ⟨madeCells #[.int .i64 0] (n * 1), heap_alloc_new w _, by simp [size_madeCells], fun k hk => ?_⟩
  rw [List.length_replicate] at hk
  have e1 : gi (List.replicate n 0) k = 0 := by simp [gi, List.getD_eq_getElem?_getD, hk]
  rw [e1]
  unfold madeCells
  have hm : k % 1 = 0 := Nat.mod_one k
  simp [hk, hm]
theorem take_set_repI (l : List Int) (k : Nat) (h : k < l.length) : l.take (k + 1) ++ List.replicate (l.length - (k + 1)) 0 = (l.take k ++ List.replicate (l.length - k) 0).set k (gi l k) := by
  have e : l.length - k = (l.length - (k + 1)) + 1 := by omega
  rw [List.set_append_right _ _ (by simp; omega), List.length_take, Nat.min_eq_left (by omega), Nat.sub_self, e, List.replicate_succ, List.set_cons_zero, List.take_succ_eq_append_getElem h]
  have hg : gi l k = l[k] := by
    unfold gi
    rw [List.getD_eq_getElem?_getD, List.getElem?_eq_getElem h]
    rfl
  rw [hg, List.append_assoc]
  rfl
theorem OwnIB.ext {w w' : World} {g : Nat} {T : TypeId} {l : List Int} (h : OwnIB w g T l) (hx : Ext w w') : OwnIB w' g T l := by
  obtain ⟨cs, h1, h2⟩ := h
  exact ⟨cs, (hx.below.block g (heap_lt h1)).trans h1, h2⟩

theorem toIntS_any (A : Option Addr) (l : List Int) (c : Nat) (w : World) (hp : RInts w A l) (hn : l.length ≤ 1048576) :
    Calls Try.prog 28 #[.slice A l.length c] w fun e w' => ∃ A', e = .returned (.slice A' l.length l.length) ∧ OwnI w' w.heap.size w'.heap.size 3 A' l ∧ Ext w w' := by
  obtain ⟨i0, hi0, hz0, hz1, hz2⟩ := info_parts info_int
  have hmk := fun W => run_makeRow (P := Try.prog) 46 3 i0 _ Try.underlying46 hi0 hz0 .i64 .i64 l.length l.length (Nat.le_refl _) (by rw [hz2]; omega) (by omega) W
  rw [hz1] at hmk
  simp only [Value.cells] at hmk
  go_enter Try.func28, Try.ntmps28
  go_wp2
  have hg0 := ownI_made w 3 l.length
  go_loopw [4] (fun i wr => ∃ k : Nat, k ≤ l.length ∧ i = .int .i64 k ∧ Ext w wr ∧ OwnIB wr w.heap.size 3 (l.take k ++ List.replicate (l.length - k) 0)) (fun i _ => l.length - (intOf i).toNat)
  case atStart => exact ⟨0, Nat.zero_le _, rfl, (Ext.refl w).alloc _, by simpa using hg0⟩
  case round =>
    obtain ⟨k, hk, rfl, hbl, hown⟩ := hrel
    clear hg0
    by_cases hlt : k < l.length
    · obtain ⟨b, off, rfl, hz, hx⟩ := (hp.ext hbl).at_ hlt
      have q2 : (k : Int) < (l.length : Int) := by omega
      have hlen : k < (l.take k ++ List.replicate (l.length - k) 0).length := by simp; omega
      have c1 := hown.cell hlen
      have c3 := hown.frozen k
      have hs := hown.set hlen (gi l k)
      have HS := hide hs
      clear hs
      go_wp2
      go_roundw
      case rel => exact ⟨k + 1, by omega, by go_num, hbl.setCell (by simp) _, by rw [take_set_repI l k hlt]; exact HS.out⟩
      case measure => simp [intOf]; omega
    · have e : k = l.length := by omega
      have q2 : ¬ (k : Int) < (l.length : Int) := by omega
      have E := hide e
      clear e
      go_wp2
      go_ret
      refine ⟨_, rfl, fun _ => ?_, hbl⟩
      rw [E.out] at hown
      obtain ⟨cs, h1, h2, h3⟩ := hown
      simp at h2 h3
      exact ⟨_, cs, rfl, Nat.le_refl _, heap_lt h1, h1, by omega, h3⟩

end Go.Proofs.Ytmccffmkfdcmmaa
