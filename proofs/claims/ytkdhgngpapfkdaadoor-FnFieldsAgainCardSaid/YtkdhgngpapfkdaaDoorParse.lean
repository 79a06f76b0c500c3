/-
  Contracts: ParseUint of the program and of the reference.
-/
import Derived.Test.YtkdhgngpapfkdaaDoorFmt
namespace Go.Proofs.YtkdhgngpapfkdaaDoor
open Go.RowKit
open Go.Lib (decDigits itoa)

theorem snoc_ind {α : Type} {Q : List α → Prop} (h0 : Q []) (h1 : ∀ l b, Q l → Q (l ++ [b])) : ∀ l, Q l := by
  intro l
  have h : ∀ r : List α, Q r.reverse := by
    intro r
    induction r with
    | nil => exact h0
    | cons a r ih => rw [List.reverse_cons]; exact h1 _ _ ih
  have := h l.reverse
  rwa [List.reverse_reverse] at this

def digB (b : UInt8) : Bool := decide (48 ≤ b.toNat) && decide (b.toNat ≤ 57)
theorem digB_iff {b : UInt8} : digB b = true ↔ 48 ≤ b.toNat ∧ b.toNat ≤ 57 := by simp [digB]
/-- the number that a row of digits stands for -/
def numL (l : List UInt8) : Nat := l.foldl (fun n b => n * 10 + (b.toNat - 48)) 0
theorem numL_snoc (l : List UInt8) (b : UInt8) : numL (l ++ [b]) = numL l * 10 + (b.toNat - 48) := by simp [numL]
theorem numL_lt : ∀ (l : List UInt8), (∀ b ∈ l, digB b = true) → numL l < 10 ^ l.length := by
  intro l
  induction l using snoc_ind with
  | h0 => intro _; simp [numL]
  | h1 l b ih =>
    intro h
    have h1 := ih (fun x hx => h x (by simp [hx]))
    have h2 := digB_iff.1 (h b (by simp))
    rw [numL_snoc, List.length_append, List.length_singleton, Nat.pow_succ]
    omega
/-- no number but 0 begins with a 0 -/
theorem head_dec : ∀ u : Nat, 1 ≤ u → (decDigits u).head? ≠ some 48 := by
  intro u
  induction u using Nat.strongRecOn with
  | _ u ih =>
    intro h1
    by_cases h : u < 10
    · rw [decDigits, dif_pos h]
      intro e
      simp only [List.head?_cons, Option.some.injEq] at e
      have := congrArg UInt8.toNat e
      rw [UInt8.toNat_ofNat'] at this
      have h2 : (48 : UInt8).toNat = 48 := rfl
      omega
    · rw [decDigits, dif_neg h]
      intro e
      have h3 := ih (u / 10) (by omega) (by omega)
      cases hd : decDigits (u / 10) with
      | nil =>
        have := Lib.decDigits_length (u / 10)
        rw [hd] at this
        have := Lib.nDigits_pos (u / 10)
        simp at *
        omega
      | cons a r =>
        rw [hd] at e h3
        exact h3 e
theorem dec_ne_nil (u : Nat) : decDigits u ≠ [] := by
  intro h
  have h1 := Lib.decDigits_length u
  rw [h] at h1
  have := Lib.nDigits_pos u
  simp at h1
  omega
/-- a row of digits without a leading 0 is the numeral of its number -/
theorem dec_num : ∀ (l : List UInt8), (∀ b ∈ l, digB b = true) → l ≠ [] → ¬ (1 < l.length ∧ l.head? = some 48) → decDigits (numL l) = l := by
  intro l
  induction l using snoc_ind with
  | h0 => intro _ h; exact absurd rfl h
  | h1 l b ih =>
    intro hd _ hz
    have h2 := digB_iff.1 (hd b (by simp))
    have hb : UInt8.ofNat (48 + (b.toNat - 48)) = b := by rw [show 48 + (b.toNat - 48) = b.toNat by omega]; exact UInt8.ofNat_toNat
    rw [numL_snoc]
    by_cases hl : l = []
    · subst hl
      rw [show numL [] = 0 from rfl, decDigits, dif_pos (by omega), Nat.zero_mul, Nat.zero_add, hb]
      rfl
    · obtain ⟨a, r, rfl⟩ := List.exists_cons_of_ne_nil hl
      have hz2 : a ≠ 48 := fun e => hz ⟨by simp, by rw [e]; rfl⟩
      have h3 := ih (fun x hx => hd x (by rw [List.mem_append]; exact .inl hx)) hl (fun h => hz2 (by have := h.2; simpa using this))
      have hpos : 1 ≤ numL (a :: r) := by
        rcases Nat.eq_zero_or_pos (numL (a :: r)) with h0 | h0
        · rw [h0] at h3
          have e : decDigits 0 = [48] := by decide +kernel
          rw [e] at h3
          injection h3 with h4 h5
          exact absurd h4.symm hz2
        · exact h0
      rw [decDigits, dif_neg (by omega), show (numL (a :: r) * 10 + (b.toNat - 48)) / 10 = numL (a :: r) by omega, h3, show (numL (a :: r) * 10 + (b.toNat - 48)) % 10 = b.toNat - 48 by omega, hb]
theorem dec_num_not (l : List UInt8) (h : l = [] ∨ (1 < l.length ∧ l.head? = some 48)) (u : Nat) : decDigits u ≠ l := by
  intro e
  rcases h with rfl | ⟨h1, h2⟩
  · exact dec_ne_nil u e
  · rcases Nat.eq_zero_or_pos u with rfl | hp
    · have e0 : decDigits 0 = [48] := by decide +kernel
      rw [e0] at e
      rw [← e] at h1
      simp at h1
    · exact head_dec u hp (by rw [e]; exact h2)

/-- all bytes below k are digits -/
def digK (s : ByteArray) (k : Nat) : Prop := ∀ q, q < k → digB (by8 s q) = true
def numK (s : ByteArray) (k : Nat) : Nat := numL ((byl s).take k)
theorem by8_mem {s : ByteArray} {k : Nat} {b : UInt8} (h : b ∈ (byl s).take k) : ∃ q, q < k ∧ b = by8 s q := by
  obtain ⟨q, hq, e⟩ := List.mem_iff_getElem.1 h
  rw [List.length_take] at hq
  rw [List.getElem_take] at e
  refine ⟨q, by omega, ?_⟩
  rw [← e]
  have h2 : q < (byl s).length := by omega
  simp [by8, List.getD_eq_getElem?_getD, List.getElem?_eq_getElem h2]
theorem numK_lt {s : ByteArray} {k : Nat} (hk : k ≤ s.size) (h : digK s k) : numK s k < 10 ^ k := by
  have := numL_lt ((byl s).take k) (fun b hb => by obtain ⟨q, h1, rfl⟩ := by8_mem hb; exact h q h1)
  rwa [List.length_take, byl_length, Nat.min_eq_left hk] at this
theorem numK_succ {s : ByteArray} {k : Nat} (hk : k < s.size) : numK s (k + 1) = numK s k * 10 + ((by8 s k).toNat - 48) := by
  unfold numK
  rw [byl_take s k hk, numL_snoc]
theorem digK_succ {s : ByteArray} {k : Nat} (h : digK s k) (hb : digB (by8 s k) = true) : digK s (k + 1) := fun q hq => by
  rcases Nat.lt_or_eq_of_le (Nat.lt_succ_iff.1 hq) with h1 | h1
  · exact h q h1
  · rw [h1]; exact hb

/-- what ParseUint takes -/
def parseOk (s : ByteArray) : Prop := s.size ≤ 10 ∧ 0 < s.size ∧ ¬ (1 < s.size ∧ by8 s 0 = 48) ∧ digK s s.size ∧ numK s s.size ≤ 1000000000
open Classical in
/-- what ParseUint returns -/
noncomputable def parseV (s : ByteArray) : Value := if parseOk s then .tuple #[.int .i64 (numK s s.size : Int), .bool true] else .tuple #[.int .i64 0, .bool false]
theorem parseV_yes {s : ByteArray} (h : parseOk s) : parseV s = .tuple #[.int .i64 (numK s s.size : Int), .bool true] := by unfold parseV; rw [if_pos h]
theorem parseV_no {s : ByteArray} (h : ¬ parseOk s) : parseV s = .tuple #[.int .i64 0, .bool false] := by unfold parseV; rw [if_neg h]

/-- the reference's last test -/
theorem parse_text {s : ByteArray} (hd : digK s s.size) : (itoa (numK s s.size : Int) = byl s) ↔ (0 < s.size ∧ ¬ (1 < s.size ∧ by8 s 0 = 48)) := by
  have hN : numK s s.size = numL (byl s) := by unfold numK; rw [byl_full]
  have hb : ∀ b ∈ byl s, digB b = true := fun b hb => by
    obtain ⟨q, h1, rfl⟩ := by8_mem (by rw [byl_full]; exact hb)
    exact hd q h1
  have hh : ∀ h : 0 < s.size, (byl s).head? = some (by8 s 0) := fun h => by
    have h2 : 0 < (byl s).length := by rw [byl_length]; exact h
    rw [List.head?_eq_getElem?, List.getElem?_eq_getElem h2]
    simp [by8, List.getD_eq_getElem?_getD, List.getElem?_eq_getElem h2]
  have hi : itoa (numK s s.size : Int) = decDigits (numK s s.size) := Lib.itoa_nonneg _
  rw [hi, hN]
  constructor
  · intro e
    have hp : 0 < s.size := by
      rcases Nat.eq_zero_or_pos s.size with h0 | h0
      · exact absurd e (dec_num_not _ (.inl (List.eq_nil_of_length_eq_zero (by rw [byl_length]; exact h0))) _)
      · exact h0
    exact ⟨hp, fun h => dec_num_not _ (.inr ⟨by rw [byl_length]; exact h.1, by rw [hh hp, h.2]⟩) _ e⟩
  · intro h
    exact dec_num _ hb (fun e => by have h3 := byl_length s; have h4 := h.1; rw [e, List.length_nil] at h3; omega) (fun h2 => h.2 ⟨by rw [← byl_length]; exact h2.1, by have := h2.2; rw [hh h.1] at this; simpa using this⟩)

theorem numK_bd {s : ByteArray} {k : Nat} (hk : k ≤ s.size) (hs : s.size ≤ 10) (h : digK s k) : numK s k < 10000000000 := by
  have h1 := numK_lt hk h
  have h2 : 10 ^ k ≤ 10 ^ 10 := Nat.pow_le_pow_right (by omega) (by omega)
  omega
theorem numK_bd9 {s : ByteArray} {k : Nat} (hk : k < s.size) (hs : s.size ≤ 10) (h : digK s k) : numK s k < 1000000000 := by
  have h1 := numK_lt (by omega) h
  have h2 : 10 ^ k ≤ 10 ^ 9 := Nat.pow_le_pow_right (by omega) (by omega)
  omega



set_option maxRecDepth 100000 in
set_option maxHeartbeats 3200000 in
theorem ParseUint_any (s : ByteArray) (w : World) :
    Calls Tryd.prog 17 #[.string s] w fun e w' => e = .returned (parseV s) ∧ Ext w w' := by
  by_cases h0 : s.size = 0
  · have HN := hide (parseV_no (s := s) (fun h => by have := h.2.1; omega))
    have g4 : ((s.size : Int) == 0) = true := by rw [beq_iff_eq]; omega
    clear h0
    go_enter Tryd.func17, Tryd.ntmps17
    go_wp2
    exact bodyPost_ret (v := .tuple #[.int .i64 0, .bool false]) (by simp [results, Tryd.results17, go_sem]) rfl ⟨by rw [HN.out], by (repeat (first | exact Ext.refl _ | assumption | apply Ext.alloc | apply Ext.drew | apply Ext.drewN | (refine Ext.trans ?_ (by assumption))))⟩
  · have g4 : ((s.size : Int) == 0) = false := by rw [beq_eq_false_iff_ne]; omega
    by_cases h10 : 10 < s.size
    · have HN := hide (parseV_no (s := s) (fun h => by have := h.1; omega))
      have g5 : decide ((10 : Int) < (s.size : Int)) = true := by simp; omega
      go_enter Tryd.func17, Tryd.ntmps17
      go_wp2
      exact bodyPost_ret (v := .tuple #[.int .i64 0, .bool false]) (by simp [results, Tryd.results17, go_sem]) rfl ⟨by rw [HN.out], by (repeat (first | exact Ext.refl _ | assumption | apply Ext.alloc | apply Ext.drew | apply Ext.drewN | (refine Ext.trans ?_ (by assumption))))⟩
    · have g1 : s.size ≤ 10 := by omega
      have g5 : decide ((10 : Int) < (s.size : Int)) = false := by simp; omega
      have g2 : 0 < s.size := by omega
      have b0 := by8_of s 0 g2
      by_cases hone : 1 < s.size
      · have g7 : decide ((1 : Int) < (s.size : Int)) = true := decide_eq_true (by omega)
        by_cases hz : by8 s 0 = 48
        · have HN := hide (parseV_no (s := s) (fun h => h.2.2.1 ⟨hone, hz⟩))
          rw [hz] at b0
          go_enter Tryd.func17, Tryd.ntmps17
          go_wp2
          exact bodyPost_ret (v := .tuple #[.int .i64 0, .bool false]) (by simp [results, Tryd.results17, go_sem]) rfl ⟨by rw [HN.out], by (repeat (first | exact Ext.refl _ | assumption | apply Ext.alloc | apply Ext.drew | apply Ext.drewN | (refine Ext.trans ?_ (by assumption))))⟩
        · have HG := hide (show s.size ≤ 10 ∧ 0 < s.size ∧ ¬ (1 < s.size ∧ by8 s 0 = 48) from ⟨g1, g2, fun h => hz h.2⟩)
          have g8 : (((by8 s 0).toNat : Int) == 48) = false := by
            rw [beq_eq_false_iff_ne]
            intro e
            exact hz (UInt8.toNat_inj.1 (by have h48 : (48 : UInt8).toNat = 48 := rfl; omega))
          clear hz
          go_enter Tryd.func17, Tryd.ntmps17
          go_wp2
          clear b0 g8
          go_loopw [4, 5] (fun n i wr => ∃ k : Nat, k ≤ s.size ∧ i = .int .i64 k ∧ n = .int .i64 (numK s k : Int) ∧ Ext w wr ∧ Hid (digK s k)) (fun _ i _ => s.size - (intOf i).toNat)
          case atStart => exact ⟨0, Nat.zero_le _, rfl, rfl, by (repeat (first | exact Ext.refl _ | assumption | apply Ext.alloc | apply Ext.drew | apply Ext.drewN | (refine Ext.trans ?_ (by assumption)))), hide (fun q h => absurd h (by omega))⟩
          case round =>
            obtain ⟨k, hk, rfl, rfl, hbl, HD⟩ := hrel
            obtain ⟨wq, rfl⟩ : ∃ wq : World, wq = wr := ⟨_, rfl⟩
            have hnb := numK_bd hk g1 HD.out
            by_cases hlt : k < s.size
            · have hnb9 := numK_bd9 hlt g1 HD.out
              have hb8 := by8_of s k hlt
              have hx2 : (by8 s k).toNat < 256 := by8_lt s k
              have q1 : (0 : Int) ≤ (k : Int) := by omega
              have q2 : (k : Int) < (s.size : Int) := by omega
              cases hd : digB (by8 s k)
              · have HN := hide (show parseV s = .tuple #[.int .i64 0, .bool false] from parseV_no (fun h => by have h2 := h.2.2.2.1 k hlt; rw [hd] at h2; cases h2))
                have HX := hide (show ¬ (48 ≤ (by8 s k).toNat ∧ (by8 s k).toNat ≤ 57) from fun h => by rw [digB_iff.2 h] at hd; cases hd)
                clear hd
                by_cases n1 : (by8 s k).toNat < 48
                · have n2 : decide (((by8 s k).toNat : Int) < 48) = true := by simp; omega
                  go_wp2
                  exact bodyPost_ret (v := .tuple #[.int .i64 0, .bool false]) (by simp [results, Tryd.results17, go_sem]) rfl ⟨by rw [HN.out], by (repeat (first | exact Ext.refl _ | assumption | apply Ext.alloc | apply Ext.drew | apply Ext.drewN | (refine Ext.trans ?_ (by assumption))))⟩
                · have n2 : decide (((by8 s k).toNat : Int) < 48) = false := by simp; omega
                  have n3 : decide ((57 : Int) < ((by8 s k).toNat : Int)) = true := by have := HX.out; simp; omega
                  go_wp2
                  exact bodyPost_ret (v := .tuple #[.int .i64 0, .bool false]) (by simp [results, Tryd.results17, go_sem]) rfl ⟨by rw [HN.out], by (repeat (first | exact Ext.refl _ | assumption | apply Ext.alloc | apply Ext.drew | apply Ext.drewN | (refine Ext.trans ?_ (by assumption))))⟩
              · obtain ⟨n1, n2⟩ := digB_iff.1 hd
                have HS := hide (digK_succ HD.out hd)
                have HNS := hide (numK_succ hlt)
                clear hd
                have n3 : decide (((by8 s k).toNat : Int) < 48) = false := by simp; omega
                have n4 : decide ((57 : Int) < ((by8 s k).toNat : Int)) = false := by simp; omega
                go_wp2
                go_roundw
                case rel => exact ⟨k + 1, by omega, by go_num, by have := HNS.out; go_num, by (repeat (first | exact Ext.refl _ | assumption | apply Ext.alloc | apply Ext.drew | apply Ext.drewN | (refine Ext.trans ?_ (by assumption)))), HS⟩
                case measure => simp [intOf]; omega
            · have e : k = s.size := by omega
              subst e
              by_cases hb : numK s s.size ≤ 1000000000
              · have HY := hide (parseV_yes (s := s) ⟨g1, HG.out.2.1, HG.out.2.2, HD.out, hb⟩)
                go_wp2
                exact bodyPost_ret (v := .tuple #[.int .i64 (numK s s.size : Int), .bool true]) (by simp [results, Tryd.results17, go_sem]) rfl ⟨by rw [HY.out], by (repeat (first | exact Ext.refl _ | assumption | apply Ext.alloc | apply Ext.drew | apply Ext.drewN | (refine Ext.trans ?_ (by assumption))))⟩
              · have HN := hide (parseV_no (s := s) (fun h => hb h.2.2.2.2))
                go_wp2
                exact bodyPost_ret (v := .tuple #[.int .i64 0, .bool false]) (by simp [results, Tryd.results17, go_sem]) rfl ⟨by rw [HN.out], by (repeat (first | exact Ext.refl _ | assumption | apply Ext.alloc | apply Ext.drew | apply Ext.drewN | (refine Ext.trans ?_ (by assumption))))⟩
      · have HG := hide (show s.size ≤ 10 ∧ 0 < s.size ∧ ¬ (1 < s.size ∧ by8 s 0 = 48) from ⟨g1, g2, fun h => hone h.1⟩)
        have g7 : decide ((1 : Int) < (s.size : Int)) = false := decide_eq_false (by omega)
        go_enter Tryd.func17, Tryd.ntmps17
        go_wp2
        clear b0
        go_loopw [4, 5] (fun n i wr => ∃ k : Nat, k ≤ s.size ∧ i = .int .i64 k ∧ n = .int .i64 (numK s k : Int) ∧ Ext w wr ∧ Hid (digK s k)) (fun _ i _ => s.size - (intOf i).toNat)
        case atStart => exact ⟨0, Nat.zero_le _, rfl, rfl, by (repeat (first | exact Ext.refl _ | assumption | apply Ext.alloc | apply Ext.drew | apply Ext.drewN | (refine Ext.trans ?_ (by assumption)))), hide (fun q h => absurd h (by omega))⟩
        case round =>
          obtain ⟨k, hk, rfl, rfl, hbl, HD⟩ := hrel
          obtain ⟨wq, rfl⟩ : ∃ wq : World, wq = wr := ⟨_, rfl⟩
          have hnb := numK_bd hk g1 HD.out
          by_cases hlt : k < s.size
          · have hnb9 := numK_bd9 hlt g1 HD.out
            have hb8 := by8_of s k hlt
            have hx2 : (by8 s k).toNat < 256 := by8_lt s k
            have q1 : (0 : Int) ≤ (k : Int) := by omega
            have q2 : (k : Int) < (s.size : Int) := by omega
            cases hd : digB (by8 s k)
            · have HN := hide (show parseV s = .tuple #[.int .i64 0, .bool false] from parseV_no (fun h => by have h2 := h.2.2.2.1 k hlt; rw [hd] at h2; cases h2))
              have HX := hide (show ¬ (48 ≤ (by8 s k).toNat ∧ (by8 s k).toNat ≤ 57) from fun h => by rw [digB_iff.2 h] at hd; cases hd)
              clear hd
              by_cases n1 : (by8 s k).toNat < 48
              · have n2 : decide (((by8 s k).toNat : Int) < 48) = true := by simp; omega
                go_wp2
                exact bodyPost_ret (v := .tuple #[.int .i64 0, .bool false]) (by simp [results, Tryd.results17, go_sem]) rfl ⟨by rw [HN.out], by (repeat (first | exact Ext.refl _ | assumption | apply Ext.alloc | apply Ext.drew | apply Ext.drewN | (refine Ext.trans ?_ (by assumption))))⟩
              · have n2 : decide (((by8 s k).toNat : Int) < 48) = false := by simp; omega
                have n3 : decide ((57 : Int) < ((by8 s k).toNat : Int)) = true := by have := HX.out; simp; omega
                go_wp2
                exact bodyPost_ret (v := .tuple #[.int .i64 0, .bool false]) (by simp [results, Tryd.results17, go_sem]) rfl ⟨by rw [HN.out], by (repeat (first | exact Ext.refl _ | assumption | apply Ext.alloc | apply Ext.drew | apply Ext.drewN | (refine Ext.trans ?_ (by assumption))))⟩
            · obtain ⟨n1, n2⟩ := digB_iff.1 hd
              have HS := hide (digK_succ HD.out hd)
              have HNS := hide (numK_succ hlt)
              clear hd
              have n3 : decide (((by8 s k).toNat : Int) < 48) = false := by simp; omega
              have n4 : decide ((57 : Int) < ((by8 s k).toNat : Int)) = false := by simp; omega
              go_wp2
              go_roundw
              case rel => exact ⟨k + 1, by omega, by go_num, by have := HNS.out; go_num, by (repeat (first | exact Ext.refl _ | assumption | apply Ext.alloc | apply Ext.drew | apply Ext.drewN | (refine Ext.trans ?_ (by assumption)))), HS⟩
              case measure => simp [intOf]; omega
          · have e : k = s.size := by omega
            subst e
            by_cases hb : numK s s.size ≤ 1000000000
            · have HY := hide (parseV_yes (s := s) ⟨g1, HG.out.2.1, HG.out.2.2, HD.out, hb⟩)
              go_wp2
              exact bodyPost_ret (v := .tuple #[.int .i64 (numK s s.size : Int), .bool true]) (by simp [results, Tryd.results17, go_sem]) rfl ⟨by rw [HY.out], by (repeat (first | exact Ext.refl _ | assumption | apply Ext.alloc | apply Ext.drew | apply Ext.drewN | (refine Ext.trans ?_ (by assumption))))⟩
            · have HN := hide (parseV_no (s := s) (fun h => hb h.2.2.2.2))
              go_wp2
              exact bodyPost_ret (v := .tuple #[.int .i64 0, .bool false]) (by simp [results, Tryd.results17, go_sem]) rfl ⟨by rw [HN.out], by (repeat (first | exact Ext.refl _ | assumption | apply Ext.alloc | apply Ext.drew | apply Ext.drewN | (refine Ext.trans ?_ (by assumption))))⟩

end Go.Proofs.YtkdhgngpapfkdaaDoor
