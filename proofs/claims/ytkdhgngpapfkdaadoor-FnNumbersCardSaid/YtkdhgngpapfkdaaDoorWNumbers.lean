/- The walk of FnNumbers. -/
import Derived.Test.YtkdhgngpapfkdaaDoorDraw2
import Derived.Test.YtkdhgngpapfkdaaDoorParse
import Derived.Test.YtkdhgngpapfkdaaDoorWFormatInt
namespace Go.Proofs.YtkdhgngpapfkdaaDoor
open Go.RowKit
open Go.Lib (decDigits itoa)

/-- what a fresh cursor knows of its bytes -/
theorem rb_ne {w : World} {B : Option Addr} {n : Nat} (h : RB w B n) : 0 < n → ∀ b off, B = some ⟨b, off, none⟩ → b ≠ w.heap.size := fun hn b off e => by
  obtain ⟨b', off', e', h1, _⟩ := h hn
  rw [e'] at e
  injection e with e
  injection e with e1 _ _
  omega

set_option maxRecDepth 100000 in
set_option maxHeartbeats 1600000 in
theorem DrawFormatInt_any (B : Option Addr) (n c : Nat) (w : World) (hb : RB w B n) (hn : n ≤ 1048576) :
    Calls Tryd.prog 16 #[.slice B n c] w fun e w' => ∃ x : Int, (-9223372036854775808 ≤ x ∧ x ≤ 9223372036854775807) ∧ e = .returned (.int .i64 x) ∧ Ext w w' := by
  have hne := rb_ne hb
  go_enter Tryd.func16, Tryd.ntmps16
  go_wp2_with fail
  refine (l01New_any B n c w hb hn).mono ?_
  rintro e w1 ⟨rfl, hc1, x1⟩
  have hb1 := hb.ext x1
  have hlt := hc1.lt
  go_wp2_with fail
  refine (l01Once_any w.heap.size B n c 3 _ hc1 hb1 hn hne (by omega) (by omega)).mono ?_
  rintro e w2 ⟨bo, rfl, hc2, o2⟩
  have hb2 := hb1.only o2 hne
  cases bo
  · go_wp2_with fail
    refine (l01Number_any w.heap.size B n c _ hc2 hb2 hn hne).mono ?_
    rintro e w3 ⟨a, ha, rfl, hc3, o3⟩
    go_wp2
    go_ret
    exact ⟨a, ha, rfl, Below.trans x1.below ((o2.trans o3).below (Nat.le_refl _) x1.size)⟩
  · go_wp2_with fail
    refine (l01BelowN_any w.heap.size B n c 1000000 _ hc2 hb2 hn hne (by omega) (by omega)).mono ?_
    rintro e w3 ⟨a, ha, rfl, hc3, o3⟩
    have hb3 := hb2.only o3 hne
    go_wp2_with fail
    refine (l01BelowN_any w.heap.size B n c 2000000 _ hc3 hb3 hn hne (by omega) (by omega)).mono ?_
    rintro e w4 ⟨p, hp, rfl, hc4, o4⟩
    obtain ⟨v, hv⟩ : ∃ v : Int, v = a * (p - 1000000) := ⟨_, rfl⟩
    have hv0 : -1000000000000 ≤ v := by
      have h1 : a * (-1000000) ≤ a * (p - 1000000) := Int.mul_le_mul_of_nonneg_left (by omega) ha.1
      omega
    have hv1 : v ≤ 1000000000000 := by
      have h1 : a * (p - 1000000) ≤ a * 1000000 := Int.mul_le_mul_of_nonneg_left (by omega) ha.1
      omega
    have z1 := wrap_in (p - 1000000) (by omega) (by omega)
    have z2 := wrap_in v hv0 hv1
    have hv' : a * (p - 1000000) = v := hv.symm
    clear hv
    go_wp2
    go_ret
    exact ⟨v, by omega, rfl, Below.trans x1.below (((o2.trans o3).trans o4).below (Nat.le_refl _) x1.size)⟩

theorem num_dec : ∀ u : Nat, numL (decDigits u) = u := by
  intro u
  induction u using Nat.strongRecOn with
  | _ u ih =>
    by_cases h : u < 10
    · rw [decDigits, dif_pos h]
      simp [numL]
      omega
    · rw [decDigits, dif_neg h, numL_snoc, ih (u / 10) (by omega)]
      have e : (UInt8.ofNat (48 + u % 10)).toNat = 48 + u % 10 := by rw [UInt8.toNat_ofNat']; omega
      rw [e]
      omega
theorem dig_dec : ∀ u : Nat, ∀ b ∈ decDigits u, digB b = true := by
  intro u
  induction u using Nat.strongRecOn with
  | _ u ih =>
    intro b hb
    by_cases h : u < 10
    · rw [decDigits, dif_pos h] at hb
      have e : (UInt8.ofNat (48 + u)).toNat = 48 + u := by rw [UInt8.toNat_ofNat']; omega
      rw [List.mem_singleton.1 hb, digB_iff, e]
      omega
    · rw [decDigits, dif_neg h, List.mem_append] at hb
      rcases hb with hb | hb
      · exact ih (u / 10) (by omega) b hb
      · have e : (UInt8.ofNat (48 + u % 10)).toNat = 48 + u % 10 := by rw [UInt8.toNat_ofNat']; omega
        rw [List.mem_singleton.1 hb, digB_iff, e]
        omega
theorem nd_le : ∀ (k u : Nat), u < 10 ^ (k + 1) → Lib.nDigits u ≤ k + 1
  | 0, u, h => by rw [Lib.nDigits_small (by simpa using h)]; exact Nat.le_refl _
  | k + 1, u, h => by
    by_cases h1 : u < 10
    · rw [Lib.nDigits_small h1]; omega
    · rw [Lib.nDigits_big h1]
      have := nd_le k (u / 10) (by rw [Nat.pow_succ] at h; omega)
      omega
theorem by8_in {s : ByteArray} {q : Nat} (h : q < s.size) : by8 s q ∈ byl s := by
  have h2 : q < (byl s).length := by rw [byl_length]; exact h
  have e : by8 s q = (byl s)[q] := by simp [by8, List.getD_eq_getElem?_getD, List.getElem?_eq_getElem h2]
  rw [e]
  exact List.getElem_mem _
theorem size_byl {s : ByteArray} {l : List UInt8} (h : byl s = l) : s.size = l.length := by rw [← h, byl_length]
theorem numK_all (s : ByteArray) : numK s s.size = numL (byl s) := by unfold numK; rw [byl_full]

/-- the decimal text of a number is parsed to it, where it is in the range -/
theorem parse_itoa_yes {x : Int} (h0 : 0 ≤ x) (h1 : x ≤ 1000000000) : parseV ⟨(itoa x).toArray⟩ = .tuple #[.int .i64 x, .bool true] := by
  obtain ⟨u, rfl⟩ := Int.eq_ofNat_of_zero_le h0
  obtain ⟨s, hs⟩ : ∃ s : ByteArray, s = ⟨(itoa (u : Int)).toArray⟩ := ⟨_, rfl⟩
  have hb : byl s = decDigits u := by rw [hs, byl_mk, Lib.itoa_nonneg]
  have hd : digK s s.size := fun q hq => dig_dec u _ (by rw [← hb]; exact by8_in hq)
  have hn : numK s s.size = u := by rw [numK_all, hb, num_dec]
  have ht := (parse_text hd).1 (by rw [hn, Lib.itoa_nonneg, hb])
  have hz : s.size ≤ 10 := by
    rw [size_byl hb, Lib.decDigits_length]
    exact nd_le 9 u (by omega)
  rw [← hs, parseV_yes ⟨hz, ht.1, ht.2, hd, by rw [hn]; omega⟩, hn]
theorem parse_itoa_no {x : Int} (h : x < 0 ∨ 1000000000 < x) : parseV ⟨(itoa x).toArray⟩ = .tuple #[.int .i64 0, .bool false] := by
  obtain ⟨s, hs⟩ : ∃ s : ByteArray, s = ⟨(itoa x).toArray⟩ := ⟨_, rfl⟩
  rw [← hs]
  refine parseV_no fun hk => ?_
  by_cases hx : x < 0
  · have hb : byl s = 45 :: decDigits x.natAbs := by rw [hs, byl_mk]; unfold itoa; rw [if_pos hx]
    have h1 := hk.2.2.2.1 0 hk.2.1
    have e : by8 s 0 = 45 := by simp [by8, hb]
    rw [e] at h1
    exact absurd h1 (by decide)
  · obtain ⟨u, rfl⟩ := Int.eq_ofNat_of_zero_le (show 0 ≤ x by omega)
    have hb : byl s = decDigits u := by rw [hs, byl_mk, Lib.itoa_nonneg]
    have hn : numK s s.size = u := by rw [numK_all, hb, num_dec]
    have := hk.2.2.2.2
    omega
theorem itoa_ne (x : Int) : itoa x ≠ [] := by
  unfold itoa
  split
  · simp
  · exact dec_ne_nil _

set_option maxRecDepth 100000 in
set_option maxHeartbeats 1600000 in
theorem numbers_walk (B : Option Addr) (n c : Nat) (w : World) (hb : RB w B n) (htab : Lib.TabIs Tryd.prog w "internal/strconv.uint64pow10" .u64 Lib.pow10Tab) :
    Calls Tryd.prog 5 #[.slice B n c] w fun e w' => e = .returned (.bool true) ∧ Below w.heap.size w w' := by
  have HT := hide htab
  clear htab
  by_cases hbig : (1048576 : Int) < (n : Int)
  · go_enter Tryd.func5, Tryd.ntmps5
    go_wp2_with (go_at_call 15; refine (big_any _ _ _ _).mono ?_; rintro e w1 ⟨rfl, rfl⟩)
    go_ret
    exact ⟨rfl, Below.refl _ _⟩
  · have hn : n ≤ 1048576 := by omega
    go_enter Tryd.func5, Tryd.ntmps5
    go_wp2_with (go_at_call 15; refine (big_any _ _ _ _).mono ?_; rintro e w1 ⟨rfl, rfl⟩)
    refine (DrawFormatInt_any B n c w hb hn).mono ?_
    rintro e w1 ⟨x, hx, rfl, x1⟩
    have q1 : (itoa x == []) = false := beq_eq_false_iff_ne.2 (itoa_ne x)
    by_cases h0 : 0 ≤ x
    · by_cases h1 : x ≤ 1000000000
      · have HP := hide (parse_itoa_yes h0 h1)
        go_wp2_with (first
          | (go_at_call 11; refine (FormatInt_any _ _ hx.1 hx.2 (tab_ext gTab HT.out (by (repeat (first | exact Ext.refl _ | assumption | apply Ext.alloc | apply Ext.drew | apply Ext.drewN | (refine Ext.trans ?_ (by assumption))))))).mono ?_; rintro e w2 ⟨rfl, x2⟩)
          | (go_at_call 17; refine (ParseUint_any _ _).mono ?_; rw [HP.out]; rintro e w3 ⟨rfl, x3⟩))
        go_ret
        exact ⟨rfl, Ext.below (by (repeat (first | exact Ext.refl _ | assumption | apply Ext.alloc | apply Ext.drew | apply Ext.drewN | (refine Ext.trans ?_ (by assumption)))))⟩
      · have HP := hide (parse_itoa_no (x := x) (.inr (by omega)))
        go_wp2_with (first
          | (go_at_call 11; refine (FormatInt_any _ _ hx.1 hx.2 (tab_ext gTab HT.out (by (repeat (first | exact Ext.refl _ | assumption | apply Ext.alloc | apply Ext.drew | apply Ext.drewN | (refine Ext.trans ?_ (by assumption))))))).mono ?_; rintro e w2 ⟨rfl, x2⟩)
          | (go_at_call 17; refine (ParseUint_any _ _).mono ?_; rw [HP.out]; rintro e w3 ⟨rfl, x3⟩))
        go_ret
        exact ⟨rfl, Ext.below (by (repeat (first | exact Ext.refl _ | assumption | apply Ext.alloc | apply Ext.drew | apply Ext.drewN | (refine Ext.trans ?_ (by assumption)))))⟩
    · have HP := hide (parse_itoa_no (x := x) (.inl (by omega)))
      go_wp2_with (first
        | (go_at_call 11; refine (FormatInt_any _ _ hx.1 hx.2 (tab_ext gTab HT.out (by (repeat (first | exact Ext.refl _ | assumption | apply Ext.alloc | apply Ext.drew | apply Ext.drewN | (refine Ext.trans ?_ (by assumption))))))).mono ?_; rintro e w2 ⟨rfl, x2⟩)
        | (go_at_call 17; refine (ParseUint_any _ _).mono ?_; rw [HP.out]; rintro e w3 ⟨rfl, x3⟩))
      go_ret
      exact ⟨rfl, Ext.below (by (repeat (first | exact Ext.refl _ | assumption | apply Ext.alloc | apply Ext.drew | apply Ext.drewN | (refine Ext.trans ?_ (by assumption)))))⟩

end Go.Proofs.YtkdhgngpapfkdaaDoor
