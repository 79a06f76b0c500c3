/-
  Contract: the reference's FormatInt: the decimal numeral, as the kit's Lib.itoa has it.
-/
import Derived.Test.YtkdhgngpapfkdaaDoorHex
import Derived.Lib.ItoaMem
import Derived.Lib.ItoaLen
namespace Go.Proofs.YtkdhgngpapfkdaaDoor
open Go.RowKit
open Go.Lib (decDigits itoa)

/-- the digits of a number, none for 0 -/
def ddz (m : Nat) : List UInt8 := if m = 0 then [] else decDigits m
theorem ddz_step (m : Nat) (h : 0 < m) : ddz m = ddz (m / 10) ++ [figN (m % 10)] := by
  have hf : figN (m % 10) = UInt8.ofNat (48 + m % 10) := by unfold figN; rw [if_pos (by omega)]
  rw [hf]
  unfold ddz
  rw [if_neg (by omega)]
  by_cases h1 : m < 10
  · rw [if_pos (by omega), decDigits, dif_pos h1, Nat.mod_eq_of_lt h1]; rfl
  · rw [if_neg (by omega), decDigits, dif_neg h1]
theorem byl_append (a b : ByteArray) : byl (a ++ b) = byl a ++ byl b := by simp [byl]

theorem conv_one {P : Program} {src dst e : TypeId} (hs : P.underlying src = some (.slice e)) (he : P.underlying e = some (.int .u8)) (hd : P.underlying dst = some .string) (b : UInt8) (W : World) :
    (convert src dst (.slice (some ⟨W.heap.size, 0, none⟩) 1 1)).run P (W.alloc (.cells #[.int .u8 (b.toNat : Int)] e)) = .ok (.string ⟨#[b]⟩) (W.alloc (.cells #[.int .u8 (b.toNat : Int)] e)) :=
  conv_own (base := W.heap.size) (n := 1) (l := [b]) hs he hd ⟨rfl, .inr ⟨W.heap.size, 1, _, rfl, Nat.le_refl _, heap_alloc_new W _, Nat.le_refl _, by unfold maxLen; omega, rfl, rfl⟩⟩

set_option maxRecDepth 100000 in
set_option maxHeartbeats 1600000 in
theorem sFormatInt_any (n : Int) (w : World) (h0 : -9223372036854775808 ≤ n) (h1 : n ≤ 9223372036854775807) :
    Calls Tryd.prog 10 #[.int .i64 n] w fun e w' => e = .returned (.string ⟨(itoa n).toArray⟩) ∧ Ext w w' := by
  by_cases hz : n = 0
  · subst hz
    go_enter Tryd.func10, Tryd.ntmps10
    go_wp2
    exact bodyPost_ret (v := .string ⟨#[48]⟩) (by simp [results, Tryd.results10, go_sem]) rfl ⟨by rw [show itoa 0 = [48] by decide +kernel], Ext.refl _⟩
  · obtain ⟨D, hD⟩ : ∃ D, D = ddz n.natAbs := ⟨_, rfl⟩
    have hlen : D.length ≤ 21 := by
      have := Lib.itoa_length_le n h0 h1
      rw [hD]; unfold ddz; rw [if_neg (by omega)]
      unfold itoa at this
      split at this
      · simp only [List.length_cons] at this; omega
      · have e : n.natAbs = n.toNat := by omega
        rw [e]; exact this
    have HL := hide hlen
    have HR := hide hD
    clear hlen hD
    have hz2 : (n == 0) = false := by simpa using hz
    go_enter Tryd.func10, Tryd.ntmps10
    go_wp2
    go_loopw [0, 4, 5] (fun x t _ wr => ∃ (y : Int) (sv : ByteArray), x = .int .i64 y ∧ t = .string sv ∧ Ext w wr ∧ -9223372036854775808 ≤ y ∧ y ≤ 9223372036854775807 ∧ (sv.size : Int) ≤ 21 ∧ Hid (n < 0 → y ≤ 0) ∧ Hid (0 ≤ n → 0 ≤ y) ∧ Hid (ddz y.natAbs ++ byl sv = D)) (fun x _ _ _ => (intOf x).natAbs)
    case atStart => exact ⟨n, _, rfl, rfl, by (repeat (first | exact Ext.refl _ | assumption | apply Ext.alloc | apply Ext.drew | apply Ext.drewN | (refine Ext.trans ?_ (by assumption)))), h0, h1, by decide, hide (fun h => by omega), hide id, hide (by rw [HR.out]; simp [byl])⟩
    case round =>
      obtain ⟨y, sv, rfl, rfl, hbl, y0, y1, hsv, H1, H2, H3⟩ := hrel
      obtain ⟨wq, rfl⟩ : ∃ wq : World, wq = wr := ⟨_, rfl⟩
      by_cases hy : y = 0
      · subst hy
        have hsD : byl sv = D := by have := H3.out; simpa [ddz] using this
        have HS := hide hsD
        clear hsD
        have hvv : byl ⟨D.toArray⟩ = D := byl_mk D
        have e : sv = ⟨D.toArray⟩ := by rw [← HS.out, mk_byl]
        subst e
        have hDl : D.length ≤ 21 := HL.out
        have hDi : (D.length : Int) ≤ 21 := by omega
        by_cases hs : n < 0
        · go_wp2
          refine bodyPost_ret (v := .string ((⟨#[45]⟩ : ByteArray) ++ ⟨D.toArray⟩)) (by simp [results, Tryd.results10, go_sem]) rfl ⟨?_, by (repeat (first | exact Ext.refl _ | assumption | apply Ext.alloc | apply Ext.drew | apply Ext.drewN | (refine Ext.trans ?_ (by assumption))))⟩
          have e : itoa n = [45] ++ D := by rw [HR.out]; unfold itoa ddz; rw [if_pos (by omega), if_neg (by omega)]; rfl
          rw [e, ← ByteArray.mk_append_mk]
        · go_wp2
          refine bodyPost_ret (v := .string ⟨D.toArray⟩) (by simp [results, Tryd.results10, go_sem]) rfl ⟨?_, by (repeat (first | exact Ext.refl _ | assumption | apply Ext.alloc | apply Ext.drew | apply Ext.drewN | (refine Ext.trans ?_ (by assumption))))⟩
          have e : itoa n = D := by rw [HR.out]; unfold itoa ddz; rw [if_neg (by omega), if_neg (by omega), show n.natAbs = n.toNat by omega]
          rw [e]
      · have hcv := fun b W => conv_one (src := 30) (dst := 9) Tryd.underlying30 Tryd.underlying5 Tryd.underlying9 b W
        obtain ⟨m, hm⟩ : ∃ m, m = y.natAbs := ⟨_, rfl⟩
        obtain ⟨dg, hdg⟩ : ∃ dg, dg = m % 10 := ⟨_, rfl⟩
        obtain ⟨q, hq⟩ : ∃ q, q = m / 10 := ⟨_, rfl⟩
        have H4 := hide (show ddz q ++ (figN dg :: byl sv) = D by have h := H3.out; rw [← hm, ddz_step m (by omega), List.append_assoc] at h; rw [hq, hdg]; exact h)
        have hszl : (sv.size : Int) ≤ 20 := by
          have h := congrArg List.length H4.out
          simp only [List.length_append, List.length_cons, byl_length] at h
          have := HL.out
          omega
        have hd16 : dg < 16 := by omega
        have hd10 : dg < 10 := by omega
        have HM := hide hm
        have HQ := hide hq
        by_cases hp : 0 < y
        · obtain ⟨ym, rfl⟩ : ∃ ym : Nat, y = (ym : Int) := ⟨y.toNat, by omega⟩
          have e : m = ym := by omega
          subst e
          have r1 : (m : Int).tmod 10 = (dg : Int) := by rw [Int.tmod_eq_emod_of_nonneg (by omega)]; omega
          have R2 := hide (show wrap64 (q : Int) = (q : Int) by unfold wrap64; omega)
          have r3 : (m : Int).tdiv 10 = (q : Int) := by rw [Int.tdiv_eq_ediv_of_nonneg (by omega)]; omega
          have r4 : ((m : Int) == 0) = false := by simp; omega
          clear hm hdg hq
          go_wp2_with (go_at_call 37; refine (l01Figure_any dg _ hd16).mono ?_; rintro e w1 ⟨rfl, rfl⟩)
          go_roundw
          case rel => have := HQ.out; have := HM.out; exact ⟨q, _, by rw [R2.out], rfl, by (repeat (first | exact Ext.refl _ | assumption | apply Ext.alloc | apply Ext.drew | apply Ext.drewN | (refine Ext.trans ?_ (by assumption)))), by omega, by omega, by simp [go_sem]; omega, hide (fun h => by have := H1.out h; omega), hide (fun h => by omega), hide (by rw [byl_append]; exact H4.out)⟩
          case measure => have := HQ.out; rw [R2.out]; simp [intOf]; omega
        · obtain ⟨ym, rfl⟩ : ∃ ym : Nat, y = -(ym : Int) := ⟨(-y).toNat, by omega⟩
          have e : m = ym := by omega
          subst e
          have r3 : (-(m : Int)).tdiv 10 = -(q : Int) := by rw [Int.neg_tdiv, Int.tdiv_eq_ediv_of_nonneg (by omega)]; omega
          have R2 := hide (show wrap64 (-(q : Int)) = -(q : Int) by unfold wrap64; omega)
          have r4 : (-(m : Int) == 0) = false := by simp; omega
          by_cases hd0 : dg = 0
          · have r1 : (-(m : Int)).tmod 10 = 0 := by rw [Int.neg_tmod, Int.tmod_eq_emod_of_nonneg (by omega)]; omega
            subst hd0
            clear hm hdg hq
            go_wp2_with (go_at_call 37; refine (l01Figure_q 0 0 rfl (by omega) _).mono ?_; rintro e w1 ⟨rfl, hb1⟩)
            go_roundw
            case rel => have := HQ.out; have := HM.out; exact ⟨-q, _, by rw [R2.out], rfl, by (repeat (first | exact Ext.refl _ | assumption | apply Ext.alloc | apply Ext.drew | apply Ext.drewN | (refine Ext.trans ?_ (by assumption)))), by omega, by omega, by simp [go_sem]; omega, hide (fun h => by omega), hide (fun h => by have := H2.out h; omega), hide (by rw [byl_append, Int.natAbs_neg]; exact H4.out)⟩
            case measure => have := HQ.out; rw [R2.out]; simp [intOf]; omega
          · have r1 : (-(m : Int)).tmod 10 = -(dg : Int) := by rw [Int.neg_tmod, Int.tmod_eq_emod_of_nonneg (by omega)]; omega
            have r5 : -(dg : Int) < 0 := by omega
            clear hm hdg hq
            go_wp2_with (go_at_call 37; refine (l01Figure_q _ dg (by omega) hd16 _).mono ?_; rintro e w1 ⟨rfl, hb1⟩)
            go_roundw
            case rel => have := HQ.out; have := HM.out; exact ⟨-q, _, by rw [R2.out], rfl, by (repeat (first | exact Ext.refl _ | assumption | apply Ext.alloc | apply Ext.drew | apply Ext.drewN | (refine Ext.trans ?_ (by assumption)))), by omega, by omega, by simp [go_sem]; omega, hide (fun h => by omega), hide (fun h => by have := H2.out h; omega), hide (by rw [byl_append, Int.natAbs_neg]; exact H4.out)⟩
            case measure => have := HQ.out; rw [R2.out]; simp [intOf]; omega

end Go.Proofs.YtkdhgngpapfkdaaDoor
