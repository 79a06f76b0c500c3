/- The walk of FnHexText. -/
import Derived.Test.YtkdhgngpapfkdaaDoorDraw3
import Derived.Test.YtkdhgngpapfkdaaDoorUnhex
import Derived.Test.YtkdhgngpapfkdaaDoorWFormatInt
namespace Go.Proofs.YtkdhgngpapfkdaaDoor
open Go.RowKit
open Go.Lib (decDigits itoa)

/-- what a fresh cursor knows of its bytes -/
theorem rb_ne {w : World} {B : Option Addr} {n : Nat} (h : RB w B n) : 0 < n → ∀ b off, B = some ⟨b, off, none⟩ → b ≠ w.heap.size := fun hn b off e => by
  obtain ⟨b', off', e', h1, _⟩ := h hn
  rw [e'] at e
  injection e with e
  injection e with e1 _ _
  omega

set_option maxRecDepth 100000 in
set_option maxHeartbeats 1600000 in
theorem DrawEncodeHex_any (B : Option Addr) (n c : Nat) (w : World) (hb : RB w B n) (hn : n ≤ 1048576) :
    Calls Tryd.prog 18 #[.slice B n c] w fun e w' => ∃ s : ByteArray, s.size ≤ 20001 ∧ e = .returned (.string s) ∧ Ext w w' := by
  have hne := rb_ne hb
  go_enter Tryd.func18, Tryd.ntmps18
  go_wp2_with fail
  refine (l01New_any B n c w hb hn).mono ?_
  rintro e w1 ⟨rfl, hc1, x1⟩
  have hb1 := hb.ext x1
  have hlt := hc1.lt
  go_wp2_with fail
  refine (l01Once_any w.heap.size B n c 60 _ hc1 hb1 hn hne (by omega) (by omega)).mono ?_
  rintro e w2 ⟨bo, rfl, hc2, o2⟩
  have hb2 := hb1.only o2 hne
  cases bo
  · go_wp2_with fail
    refine (l01Below_any w.heap.size B n c 30 _ hc2 hb2 hn hne (by omega) (by omega)).mono ?_
    rintro e w3 ⟨a, ⟨a0, a1⟩, rfl, hc3, o3⟩
    obtain ⟨m, rfl⟩ := Int.eq_ofNat_of_zero_le a0
    have hb3 := hb2.only o3 hne
    go_wp2_with fail
    refine (l01Text_any w.heap.size B n c m _ hc3 hb3 hn hne (by omega)).mono ?_
    rintro e w4 ⟨s, hs, rfl, hc4, o4⟩
    go_wp2
    go_ret
    exact ⟨s, by omega, rfl, Below.trans x1.below (((o2.trans o3).trans o4).below (Nat.le_refl _) x1.size)⟩
  · go_wp2_with fail
    refine (l01Below_any w.heap.size B n c 2 _ hc2 hb2 hn hne (by omega) (by omega)).mono ?_
    rintro e w3 ⟨a, ⟨a0, a1⟩, rfl, hc3, o3⟩
    obtain ⟨m, rfl⟩ := Int.eq_ofNat_of_zero_le a0
    have z1 := wrap_in (20000 + (m : Int)) (by omega) (by omega)
    have z2 : (20000 : Int) + (m : Int) = ((20000 + m : Nat) : Int) := by omega
    have hl := l01Long_any (20000 + m) 200 w3 (by omega)
    have e200 : ((200 : UInt8).toNat : Int) = 200 := rfl
    rw [e200, ← z2] at hl
    have HL := hide hl
    clear hl z2
    go_wp2_with fail
    refine HL.out.mono ?_
    rintro e w4 ⟨s, hs, rfl, x4⟩
    go_wp2
    go_ret
    exact ⟨s, by omega, rfl, Below.trans x1.below (((o2.trans o3).ext x4).below (Nat.le_refl _) x1.size)⟩

theorem val_fig : ∀ n : Fin 16, valN (figN n.val) = (n.val : Int) := by decide +kernel
theorem val_figN {n : Nat} (h : n < 16) : valN (figN n) = (n : Int) := val_fig ⟨n, h⟩
theorem hexL_at : ∀ (l : List UInt8) (k : Nat), k < l.length → (hexL l).getD (2 * k) 0 = figN ((l.getD k 0).toNat / 16) ∧ (hexL l).getD (2 * k + 1) 0 = figN ((l.getD k 0).toNat % 16)
  | [], k, h => by simp at h
  | b :: l, 0, _ => ⟨rfl, rfl⟩
  | b :: l, k + 1, h => by
    have h2 := hexL_at l k (by simpa using h)
    exact h2
/-- what was encoded is decoded again -/
theorem dec_enc (s : ByteArray) (hs : s.size ≤ 20000) : decV ⟨(hexL (byl s)).toArray⟩ = .tuple #[.string s, .bool true] := by
  obtain ⟨h, hh⟩ : ∃ h : ByteArray, h = ⟨(hexL (byl s)).toArray⟩ := ⟨_, rfl⟩
  have hb : byl h = hexL (byl s) := by rw [hh, byl_mk]
  have hz : h.size = s.size * 2 := by rw [← byl_length, hb, hexL_length, byl_length]
  have at2 : ∀ k, k < s.size → by8 h (2 * k) = figN ((by8 s k).toNat / 16) ∧ by8 h (2 * k + 1) = figN ((by8 s k).toNat % 16) := fun k hk => by
    have := hexL_at (byl s) k (by rw [byl_length]; exact hk)
    unfold by8
    rw [hb]
    exact this
  have hv : ∀ k, k < s.size → valN (by8 h (2 * k)) = (((by8 s k).toNat / 16 : Nat) : Int) ∧ valN (by8 h (2 * k + 1)) = (((by8 s k).toNat % 16 : Nat) : Int) := fun k hk => by
    have h1 := at2 k hk
    have h2 := by8_lt s k
    rw [h1.1, h1.2]
    exact ⟨val_figN (by omega), val_figN (by omega)⟩
  have hp : ∀ k, k < s.size → pairV h k = by8 s k := fun k hk => by
    have h1 := hv k hk
    have h2 := by8_lt s k
    unfold pairV
    rw [h1.1, h1.2]
    have e : (((((by8 s k).toNat / 16 : Nat) : Int) * 16 + (((by8 s k).toNat % 16 : Nat) : Int))).toNat = (by8 s k).toNat := by omega
    rw [e]
    exact UInt8.ofNat_toNat
  have hl : decL h (h.size / 2) = byl s := by
    rw [hz]
    have e : s.size * 2 / 2 = s.size := by omega
    rw [e]
    apply List.ext_getElem
    · rw [decL_length, byl_length]
    · intro k h1 h2
      rw [decL_length] at h1
      simp only [decL, List.getElem_map, List.getElem_range]
      rw [hp k h1]
      simp [by8, List.getD_eq_getElem?_getD, List.getElem?_eq_getElem h2]
  rw [← hh]
  unfold decV
  rw [if_pos ⟨by omega, by omega, fun k hk => by
    have h1 := hv k (by omega)
    unfold pairOk
    rw [h1.1, h1.2]
    simp
    omega⟩, hl, mk_byl]

set_option maxRecDepth 100000 in
set_option maxHeartbeats 1600000 in
theorem hexText_walk (B : Option Addr) (n c : Nat) (w : World) (hb : RB w B n) (htab : Lib.TabIs Tryd.prog w "internal/strconv.uint64pow10" .u64 Lib.pow10Tab) :
    Calls Tryd.prog 6 #[.slice B n c] w fun e w' => e = .returned (.bool true) ∧ Below w.heap.size w w' := by
  have HT := hide htab
  clear htab
  by_cases hbig : (1048576 : Int) < (n : Int)
  · go_enter Tryd.func6, Tryd.ntmps6
    go_wp2_with (go_at_call 15; refine (big_any _ _ _ _).mono ?_; rintro e w1 ⟨rfl, rfl⟩)
    go_ret
    exact ⟨rfl, Below.refl _ _⟩
  · have hn : n ≤ 1048576 := by omega
    go_enter Tryd.func6, Tryd.ntmps6
    go_wp2_with (go_at_call 15; refine (big_any _ _ _ _).mono ?_; rintro e w1 ⟨rfl, rfl⟩)
    refine (DrawEncodeHex_any B n c w hb hn).mono ?_
    rintro e w1 ⟨s, hs, rfl, x1⟩
    have i10 : (itoa 10 == [49, 48]) = true := by decide +kernel
    by_cases hz : s.size ≤ 20000
    · have HV := hide (show encV s = .tuple #[.string ⟨(hexL (byl s)).toArray⟩, .bool true] by unfold encV; rw [if_pos hz])
      have HP := hide (dec_enc s hz)
      have q1 : decide ((20000 : Int) < (s.size : Int)) = false := decide_eq_false (by omega)
      have q2 : (hexL (byl s)).length = s.size * 2 := by rw [hexL_length, byl_length]
      have q3 : ((s.size : Int) * 2 == 2 * (s.size : Int)) = true := by rw [beq_iff_eq]; omega
      have HZ := hide (show (⟨(hexL (byl s)).toArray⟩ : ByteArray).size ≤ 1048576 by show (hexL (byl s)).toArray.size ≤ 1048576; simp [hexL_length, byl_length]; omega)
      go_wp2_with (first
        | (go_at_call 19; refine (EncodeHex_any _ _).mono ?_; rw [HV.out]; rintro e w2 ⟨rfl, x2⟩)
        | (go_at_call 20; refine (DecodeHex_any _ _ HZ.out).mono ?_; rw [HP.out]; rintro e w3 ⟨rfl, x3⟩))
      go_ret
      exact ⟨rfl, Ext.below (by (repeat (first | exact Ext.refl _ | assumption | apply Ext.alloc | apply Ext.drew | apply Ext.drewN | (refine Ext.trans ?_ (by assumption)))))⟩
    · have HV := hide (show encV s = .tuple #[.string ⟨#[]⟩, .bool false] by unfold encV; rw [if_neg hz])
      have q1 : decide ((20000 : Int) < (s.size : Int)) = true := decide_eq_true (by omega)
      go_wp2_with (first
        | (go_at_call 19; refine (EncodeHex_any _ _).mono ?_; rw [HV.out]; rintro e w2 ⟨rfl, x2⟩)
        | (go_at_call 11; refine (FormatInt_any _ _ (by omega) (by omega) (tab_ext gTab HT.out (by (repeat (first | exact Ext.refl _ | assumption | apply Ext.alloc | apply Ext.drew | apply Ext.drewN | (refine Ext.trans ?_ (by assumption))))))).mono ?_; rintro e w3 ⟨rfl, x3⟩))
      go_ret
      exact ⟨rfl, Ext.below (by (repeat (first | exact Ext.refl _ | assumption | apply Ext.alloc | apply Ext.drew | apply Ext.drewN | (refine Ext.trans ?_ (by assumption)))))⟩

end Go.Proofs.YtkdhgngpapfkdaaDoor
