/- The walk of FnFieldsAgain. -/
import Derived.Test.YtkdhgngpapfkdaaDoorFields
import Derived.Test.YtkdhgngpapfkdaaDoorWFormatInt
namespace Go.Proofs.YtkdhgngpapfkdaaDoor
open Go.RowKit
open Go.Lib (decDigits itoa)

set_option maxRecDepth 100000 in
theorem sameTexts_same (A B : Option Addr) (l : List ByteArray) (c d : Nat) (w : World) (ha : RV w A (strs l)) (hb : RV w B (strs l)) (hn : l.length ≤ 1048576) :
    Calls Tryd.prog 24 #[.slice A l.length c, .slice B l.length d] w fun e w' => e = .returned (.bool true) ∧ Ext w w' := by
  go_enter Tryd.func24, Tryd.ntmps24
  go_wp2
  go_loopw [5] (fun i wr => ∃ k : Nat, k ≤ l.length ∧ i = .int .i64 k ∧ Ext w wr) (fun i _ => l.length - (intOf i).toNat)
  case atStart => exact ⟨0, Nat.zero_le _, rfl, Ext.refl w⟩
  case round =>
    obtain ⟨k, hk, rfl, hbl⟩ := hrel
    by_cases hlt : k < l.length
    · obtain ⟨b, off, rfl, hz1, hx⟩ := (ha.ext hbl) (by rw [strs_length]; omega)
      obtain ⟨b', off', rfl, hz2, hx'⟩ := (hb.ext hbl) (by rw [strs_length]; omega)
      have y1 := (hx k (by rw [strs_length]; exact hlt)).trans (strs_get l k hlt)
      have y2 := (hx' k (by rw [strs_length]; exact hlt)).trans (strs_get l k hlt)
      clear hx hx'
      obtain ⟨t, ht⟩ : ∃ t, t = l[k] := ⟨_, rfl⟩
      rw [← ht] at y1 y2
      clear ht
      go_wp2
      refine wp_flow (by kernel_rfl) (by kernel_rfl) (fun u => ⟨#[_, _, _, _, _, _, _, _, _, _, _, _, _, _, _, _, _, u 0, u 1, u 2, u 3, u 4, u 5, u 6, u 7, u 8], _⟩) (fun i => List.getD [_, _, _, _, _, _, _, _, _] i undef) [is ?v10_0, is ?v10_1, is ?v10_2, is ?v10_3, is ?v10_4, is ?v10_5, is ?v10_6, is ?v10_7, is ?v10_8] (fun w' => w'.cell? ⟨b, off + k, none⟩ = some (.string t) ∧ w'.cell? ⟨b', off' + k, none⟩ = some (.string t)) _ rfl ?hC10 ?hs10 ?hV10 ?fin10
      case hC10 => (intro w' hx; and_intros <;> (first | (refine (Eq.trans (hx.cells _ _ ?_) ?_) <;> first | assumption | omega | (simp; done) | (simp; omega) | (simp [go_sem, World.cell?_alloc_past, *]; done)) | (have hz := hx.size; first | omega | (simp at hz; omega))))
      case hs10 =>
        repeat' (first
          | exact FSteps.nil
          | refine FSteps.cons ?_ ?_
          | (refine FStep.off_ _ _ _ rfl rfl ?_ (fun _ => rfl) ?_; (focus (intro u w hd; simp [vOf, is, Region.binds] at hd; simp [hd])); (intro w'; exact rfl); done)
          | ((first
              | refine FStep.plain rfl ?_
              | (refine FStep.on_ _ _ _ rfl rfl ?_ ?_; (focus (intro u w hd; simp [vOf, is, Region.binds] at hd; simp [hd]))))
             intro u w hW hC hd K hK
             (try simp [vOf, is, Region.binds] at hd)
             simp only [upd, Nat.reduceEqDiff, if_true, if_false] at hK
             (try simp only [hd] at hK)
             go_simp
             (first
               | (refine hK _ _ ?_ ?_; (first | exact rfl); (repeat (first | exact Ext.refl _ | assumption | apply Ext.alloc | apply Ext.drew | apply Ext.drewN | (refine Ext.trans ?_ (by assumption))))))))
      case hV10 => (simp only [List.forall_mem_cons]; simp [stable_is])
      case fin10 =>
        intro u w2 hW2 hC2 hd
        simp only [AllV, is] at hd
        simp only [hd]
        clear hd
        clear hC2 y1 y2
        go_wp2
        go_roundw
        case rel => exact ⟨k + 1, by omega, by go_num, by (repeat (first | exact Ext.refl _ | assumption | apply Ext.alloc | apply Ext.drew | apply Ext.drewN | (refine Ext.trans ?_ (by assumption))))⟩
        case measure => simp [intOf]; omega
    · go_wp2
      go_ret
      exact ⟨rfl, hbl⟩

/-- what a fresh cursor knows of its bytes -/
theorem rb_ne {w : World} {B : Option Addr} {n : Nat} (h : RB w B n) : 0 < n → ∀ b off, B = some ⟨b, off, none⟩ → b ≠ w.heap.size := fun hn b off e => by
  obtain ⟨b', off', e', h1, _⟩ := h hn
  rw [e'] at e
  injection e with e
  injection e with e1 _ _
  omega

theorem long32 (m : Nat) (w : World) (hm : m ≤ 1048576) :
    Calls Tryd.prog 45 #[.int .i64 m, .int .u8 32] w fun e w' => ∃ s : ByteArray, s.size = m ∧ e = .returned (.string s) ∧ Ext w w' := l01Long_any m 32 w hm

set_option maxRecDepth 100000 in
set_option maxHeartbeats 800000 in
theorem l01Pick_any (g : Nat) (B : Option Addr) (n c b m : Nat) (w : World) (hc : Cur w g B n c) (hb : RB w B n) (hn : n ≤ 1048576) (hne : 0 < n → ∀ b off, B = some ⟨b, off, none⟩ → b ≠ g) (hbg : b ≠ g) (hbw : b < w.heap.size) (h0 : 0 < m) (h1 : m ≤ 256)
    (hcell : ∀ k, k < m → ∃ x : ByteArray, w.cell? ⟨b, k, none⟩ = some (.string x) ∧ x.size ≤ 10) :
    Calls Tryd.prog 48 #[.pointer (some ⟨g, 0, none⟩), .slice (some ⟨b, 0, none⟩) m m] w (fun e w' => ∃ s : ByteArray, s.size ≤ 10 ∧ e = .returned (.string s) ∧ Cur w' g B n c ∧ Only g w w') := by
  go_enter Tryd.func48, Tryd.ntmps48
  go_wp2_with fail
  refine (l01Below_any g B n c m _ hc hb hn hne h0 h1).mono ?_
  rintro e w1 ⟨x, ⟨x0, x1⟩, rfl, hc1, o1⟩
  obtain ⟨q, rfl⟩ := Int.eq_ofNat_of_zero_le x0
  obtain ⟨v, hv, v0⟩ := hcell q (by omega)
  have hv1 := (o1.cell hbw hbg q).trans hv
  have hq : (q : Int) < (m : Int) := by omega
  clear hv hcell
  go_wp2
  go_ret
  exact ⟨v, v0, rfl, hc1, o1⟩

theorem lits6 (w : World) (a0 a1 a2 a3 a4 a5 : ByteArray) (T : TypeId) (Q : ByteArray → Prop) (h0 : Q a0) (h1 : Q a1) (h2 : Q a2) (h3 : Q a3) (h4 : Q a4) (h5 : Q a5) :
    ∀ k, k < 6 → ∃ x : ByteArray, (w.alloc (.cells #[.string a0, .string a1, .string a2, .string a3, .string a4, .string a5] T)).cell? ⟨w.heap.size, k, none⟩ = some (.string x) ∧ Q x := by
  intro k hk
  have h := heap_alloc_new w (.cells #[.string a0, .string a1, .string a2, .string a3, .string a4, .string a5] T)
  simp only [World.cell?, h]
  match k, hk with
  | 0, _ => exact ⟨_, rfl, h0⟩
  | 1, _ => exact ⟨_, rfl, h1⟩
  | 2, _ => exact ⟨_, rfl, h2⟩
  | 3, _ => exact ⟨_, rfl, h3⟩
  | 4, _ => exact ⟨_, rfl, h4⟩
  | 5, _ => exact ⟨_, rfl, h5⟩
  | k + 6, hk => exact absurd hk (by omega)





set_option maxRecDepth 100000 in
set_option maxHeartbeats 6400000 in
theorem DrawSplitFields_any (B : Option Addr) (n c : Nat) (w : World) (hbw : RB w B n) (hn : n ≤ 1048576) :
    Calls Tryd.prog 21 #[.slice B n c] w fun e w' => ∃ s : ByteArray, e = .returned (.string s) ∧ Ext w w' := by
  have hne := rb_ne hbw
  go_enter Tryd.func21, Tryd.ntmps21
  go_wp2_with fail
  refine (l01New_any B n c w hbw hn).mono ?_
  rintro e w1 ⟨rfl, hc1, x1⟩
  have hb := hbw.ext x1
  have hlt := hc1.lt
  go_wp2_with fail
  refine (l01Below_any w.heap.size B n c 9 _ hc1 hb hn hne (by omega) (by omega)).mono ?_
  rintro e wA ⟨nn, ⟨nn0, nn1⟩, rfl, hcA, oA⟩
  have hbA := hb.only oA hne
  obtain ⟨n0, rfl⟩ := Int.eq_ofNat_of_zero_le nn0
  go_wp2_with fail
  refine (l01Once_any w.heap.size B n c 15 _ hcA hbA hn hne (by omega) (by omega)).mono ?_
  rintro e wB ⟨bo, rfl, hcB, oB⟩
  have hbB := hbA.only oB hne
  cases bo
  · obtain ⟨N, rfl⟩ : ∃ N : Nat, N = n0 := ⟨_, rfl⟩
    have hN : N ≤ 25 := by omega
    have hON : Only w.heap.size w1 wB := oA.trans oB
    have hcN := hcB
    go_wp2
    go_loopw [5, 6, 7] (fun t i _ wr => ∃ (i' : Nat) (s0 : ByteArray), i' ≤ N ∧ i = .int .i64 i' ∧ t = .string s0 ∧ (s0.size : Int) ≤ 8 * i' ∧ Only w.heap.size w1 wr ∧ Cur wr w.heap.size B n c) (fun _ i _ _ => N - (intOf i).toNat)
    case atStart => exact ⟨0, _, Nat.zero_le _, rfl, rfl, by decide, hON, hcN⟩
    case round =>
      obtain ⟨i, s0, hi, rfl, rfl, hs0, hO2, hc2⟩ := hrel
      obtain ⟨w2, rfl⟩ : ∃ w2 : World, w2 = wr := ⟨_, rfl⟩
      have hs0n : s0.size ≤ 1000 := by omega
      by_cases hiN : i < N
      · by_cases hi0 : i = 0
        · subst hi0
          have hb2' := hb.only hO2 hne
          go_wp2_with fail
          refine (l01Once_any w.heap.size B n c 5 _ hc2 hb2' hn hne (by omega) (by omega)).mono ?_
          rintro e w3' ⟨bo2, rfl, hc3', o3'⟩
          cases bo2
          · have hOv : Only w.heap.size w1 w3' := hO2.trans o3'
            have hcv := hc3'
            obtain ⟨sv, hsv⟩ : ∃ sv, s0 = sv := ⟨_, rfl⟩
            subst hsv
            have hsz : (s0.size : Int) ≤ (s0.size : Int) + 3 := by omega
            obtain ⟨i, hi1⟩ : ∃ i : Nat, i = 0 := ⟨_, rfl⟩
            have hbv := hb.only hOv hne
            go_wp2
            go_loopw [5, 7] (fun t k wr => ∃ (q : Nat) (tv : ByteArray), q ≤ 5 ∧ k = .int .i64 q ∧ t = .string tv ∧ (tv.size : Int) ≤ (s0.size : Int) + q ∧ Only w.heap.size w1 wr ∧ Cur wr w.heap.size B n c) (fun _ k _ => 5 - (intOf k).toNat)
            case atStart => exact ⟨0, s0, by omega, rfl, rfl, by simp, hOv, hcv⟩
            case round =>
              obtain ⟨q, tv, hq, rfl, rfl, htv, hOq, hcq⟩ := hrel
              obtain ⟨wp, rfl⟩ : ∃ wp : World, wp = wr := ⟨_, rfl⟩
              have hbp := hb.only hOq hne
              go_wp2_with fail
              refine (l01Below_any w.heap.size B n c 5 _ hcq hbp hn hne (by omega) (by omega)).mono ?_
              rintro e wa ⟨x, ⟨x0, x1⟩, rfl, hca, oa⟩
              have hba := hbp.only oa hne
              by_cases hqx : (q : Int) ≤ x
              · go_wp2_with fail
                refine (l01Below_any w.heap.size B n c 94 _ hca hba hn hne (by omega) (by omega)).mono ?_
                rintro e wb ⟨y, ⟨y0, y1⟩, rfl, hcb, ob⟩
                obtain ⟨b, hbb⟩ : ∃ b : UInt8, (b.toNat : Int) = 33 + y := ⟨UInt8.ofNat (33 + y).toNat, by rw [UInt8.toNat_ofNat']; omega⟩
                have z1 := wrap_in (33 + y) (by omega) (by omega)
                have z2 : IntKind.u8.wrap (33 + y) = (b.toNat : Int) := by rw [wraps_u8 _ (by omega) (by omega)]; omega
                have z3 : 33 + y = (b.toNat : Int) := hbb.symm
                have hcv1 := fun b W => conv_one (src := 30) (dst := 9) Tryd.underlying30 Tryd.underlying5 Tryd.underlying9 b W
                have htn : (tv.size : Int) ≤ 1000 := by omega
                clear hbb
                go_wp2
                go_roundw
                case rel => exact ⟨q + 1, _, by omega, by go_num, rfl, by simp [go_sem]; omega, ((hOq.trans oa).trans ob).ext (by (repeat (first | exact Ext.refl _ | assumption | apply Ext.alloc | apply Ext.drew | apply Ext.drewN | (refine Ext.trans ?_ (by assumption))))), hcb.alloc _⟩
                case measure => simp [intOf]; omega
              · go_wp2
                go_roundw
                case rel => exact ⟨i + 1, tv, by omega, by go_num, rfl, by omega, hOq.trans oa, hca⟩
                case measure => simp [intOf]; omega
          · have hO2 := hO2.trans o3'
            have hc2 := hc3'
            obtain ⟨i, hi1⟩ : ∃ i : Nat, i = 0 := ⟨_, rfl⟩
            have hb2 := hb.only hO2 hne
            go_wp2_with fail
            refine (l01Below_any w.heap.size B n c 2 _ hc2 hb2 hn hne (by omega) (by omega)).mono ?_
            rintro e w3 ⟨x, ⟨x0, x1⟩, rfl, hc3, o3⟩
            have hb3 := hb2.only o3 hne
            go_wp2_with fail
            refine (l01Below_any w.heap.size B n c 3 _ hc3 hb3 hn hne (by omega) (by omega)).mono ?_
            rintro e w4 ⟨y, ⟨y0, y1⟩, rfl, hc4, o4⟩
            obtain ⟨m, hm⟩ : ∃ m : Nat, (m : Int) = 1 + x * y := by
              have h1 : 0 ≤ x * y := Int.mul_nonneg x0 y0
              exact ⟨(1 + x * y).toNat, by omega⟩
            have hm2 : m ≤ 3 := by
              have h1 : x = 0 ∨ x = 1 := by omega
              rcases h1 with rfl | rfl <;> omega
            have z1 := wrap_in (x * y) (by omega) (by omega)
            have z2 := wrap_in (1 + x * y) (by omega) (by omega)
            have hl := long32 m w4 (by omega)
            rw [hm] at hl
            have HL := hide hl
            clear hl
            go_wp2_with fail
            refine HL.out.mono ?_
            rintro e w5 ⟨sp, hsp, rfl, x5⟩
            have hOv : Only w.heap.size w1 w5 := ((hO2.trans o3).trans o4).ext x5
            have hcv : Cur w5 w.heap.size B n c := by
              obtain ⟨i', h', q1, q2⟩ := hc4
              exact ⟨i', h', (x5.below.block _ (hp_lt q1)).trans q1, q2⟩
            obtain ⟨sv, hsv⟩ : ∃ sv, sv = s0 ++ sp := ⟨_, rfl⟩
            have hsz : (sv.size : Int) ≤ (s0.size : Int) + 3 := by rw [hsv, ByteArray.size_append']; omega
            have hsv2 : s0 ++ sp = sv := hsv.symm
            have hspi : (sp.size : Int) ≤ 3 := by omega
            have hspn : sp.size ≤ 3 := by omega
            clear hsv
            have hbv := hb.only hOv hne
            go_wp2
            go_loopw [5, 7] (fun t k wr => ∃ (q : Nat) (tv : ByteArray), q ≤ 5 ∧ k = .int .i64 q ∧ t = .string tv ∧ (tv.size : Int) ≤ (sv.size : Int) + q ∧ Only w.heap.size w1 wr ∧ Cur wr w.heap.size B n c) (fun _ k _ => 5 - (intOf k).toNat)
            case atStart => exact ⟨0, sv, by omega, rfl, rfl, by simp, hOv, hcv⟩
            case round =>
              obtain ⟨q, tv, hq, rfl, rfl, htv, hOq, hcq⟩ := hrel
              obtain ⟨wp, rfl⟩ : ∃ wp : World, wp = wr := ⟨_, rfl⟩
              have hbp := hb.only hOq hne
              go_wp2_with fail
              refine (l01Below_any w.heap.size B n c 5 _ hcq hbp hn hne (by omega) (by omega)).mono ?_
              rintro e wa ⟨x, ⟨x0, x1⟩, rfl, hca, oa⟩
              have hba := hbp.only oa hne
              by_cases hqx : (q : Int) ≤ x
              · go_wp2_with fail
                refine (l01Below_any w.heap.size B n c 94 _ hca hba hn hne (by omega) (by omega)).mono ?_
                rintro e wb ⟨y, ⟨y0, y1⟩, rfl, hcb, ob⟩
                obtain ⟨b, hbb⟩ : ∃ b : UInt8, (b.toNat : Int) = 33 + y := ⟨UInt8.ofNat (33 + y).toNat, by rw [UInt8.toNat_ofNat']; omega⟩
                have z1 := wrap_in (33 + y) (by omega) (by omega)
                have z2 : IntKind.u8.wrap (33 + y) = (b.toNat : Int) := by rw [wraps_u8 _ (by omega) (by omega)]; omega
                have z3 : 33 + y = (b.toNat : Int) := hbb.symm
                have hcv1 := fun b W => conv_one (src := 30) (dst := 9) Tryd.underlying30 Tryd.underlying5 Tryd.underlying9 b W
                have htn : (tv.size : Int) ≤ 1000 := by omega
                clear hbb
                go_wp2
                go_roundw
                case rel => exact ⟨q + 1, _, by omega, by go_num, rfl, by simp [go_sem]; omega, ((hOq.trans oa).trans ob).ext (by (repeat (first | exact Ext.refl _ | assumption | apply Ext.alloc | apply Ext.drew | apply Ext.drewN | (refine Ext.trans ?_ (by assumption))))), hcb.alloc _⟩
                case measure => simp [intOf]; omega
              · go_wp2
                go_roundw
                case rel => exact ⟨i + 1, tv, by omega, by go_num, rfl, by omega, hOq.trans oa, hca⟩
                case measure => simp [intOf]; omega
        · have hi1 : (0 : Int) < (i : Int) := by omega
          have hb2 := hb.only hO2 hne
          go_wp2_with fail
          refine (l01Below_any w.heap.size B n c 2 _ hc2 hb2 hn hne (by omega) (by omega)).mono ?_
          rintro e w3 ⟨x, ⟨x0, x1⟩, rfl, hc3, o3⟩
          have hb3 := hb2.only o3 hne
          go_wp2_with fail
          refine (l01Below_any w.heap.size B n c 3 _ hc3 hb3 hn hne (by omega) (by omega)).mono ?_
          rintro e w4 ⟨y, ⟨y0, y1⟩, rfl, hc4, o4⟩
          obtain ⟨m, hm⟩ : ∃ m : Nat, (m : Int) = 1 + x * y := by
            have h1 : 0 ≤ x * y := Int.mul_nonneg x0 y0
            exact ⟨(1 + x * y).toNat, by omega⟩
          have hm2 : m ≤ 3 := by
            have h1 : x = 0 ∨ x = 1 := by omega
            rcases h1 with rfl | rfl <;> omega
          have z1 := wrap_in (x * y) (by omega) (by omega)
          have z2 := wrap_in (1 + x * y) (by omega) (by omega)
          have hl := long32 m w4 (by omega)
          rw [hm] at hl
          have HL := hide hl
          clear hl
          go_wp2_with fail
          refine HL.out.mono ?_
          rintro e w5 ⟨sp, hsp, rfl, x5⟩
          have hOv : Only w.heap.size w1 w5 := ((hO2.trans o3).trans o4).ext x5
          have hcv : Cur w5 w.heap.size B n c := by
            obtain ⟨i', h', q1, q2⟩ := hc4
            exact ⟨i', h', (x5.below.block _ (hp_lt q1)).trans q1, q2⟩
          obtain ⟨sv, hsv⟩ : ∃ sv, sv = s0 ++ sp := ⟨_, rfl⟩
          have hsz : (sv.size : Int) ≤ (s0.size : Int) + 3 := by rw [hsv, ByteArray.size_append']; omega
          have hsv2 : s0 ++ sp = sv := hsv.symm
          have hspi : (sp.size : Int) ≤ 3 := by omega
          have hspn : sp.size ≤ 3 := by omega
          clear hsv
          have hbv := hb.only hOv hne
          go_wp2
          go_loopw [5, 7] (fun t k wr => ∃ (q : Nat) (tv : ByteArray), q ≤ 5 ∧ k = .int .i64 q ∧ t = .string tv ∧ (tv.size : Int) ≤ (sv.size : Int) + q ∧ Only w.heap.size w1 wr ∧ Cur wr w.heap.size B n c) (fun _ k _ => 5 - (intOf k).toNat)
          case atStart => exact ⟨0, sv, by omega, rfl, rfl, by simp, hOv, hcv⟩
          case round =>
            obtain ⟨q, tv, hq, rfl, rfl, htv, hOq, hcq⟩ := hrel
            obtain ⟨wp, rfl⟩ : ∃ wp : World, wp = wr := ⟨_, rfl⟩
            have hbp := hb.only hOq hne
            go_wp2_with fail
            refine (l01Below_any w.heap.size B n c 5 _ hcq hbp hn hne (by omega) (by omega)).mono ?_
            rintro e wa ⟨x, ⟨x0, x1⟩, rfl, hca, oa⟩
            have hba := hbp.only oa hne
            by_cases hqx : (q : Int) ≤ x
            · go_wp2_with fail
              refine (l01Below_any w.heap.size B n c 94 _ hca hba hn hne (by omega) (by omega)).mono ?_
              rintro e wb ⟨y, ⟨y0, y1⟩, rfl, hcb, ob⟩
              obtain ⟨b, hbb⟩ : ∃ b : UInt8, (b.toNat : Int) = 33 + y := ⟨UInt8.ofNat (33 + y).toNat, by rw [UInt8.toNat_ofNat']; omega⟩
              have z1 := wrap_in (33 + y) (by omega) (by omega)
              have z2 : IntKind.u8.wrap (33 + y) = (b.toNat : Int) := by rw [wraps_u8 _ (by omega) (by omega)]; omega
              have z3 : 33 + y = (b.toNat : Int) := hbb.symm
              have hcv1 := fun b W => conv_one (src := 30) (dst := 9) Tryd.underlying30 Tryd.underlying5 Tryd.underlying9 b W
              have htn : (tv.size : Int) ≤ 1000 := by omega
              clear hbb
              go_wp2
              go_roundw
              case rel => exact ⟨q + 1, _, by omega, by go_num, rfl, by simp [go_sem]; omega, ((hOq.trans oa).trans ob).ext (by (repeat (first | exact Ext.refl _ | assumption | apply Ext.alloc | apply Ext.drew | apply Ext.drewN | (refine Ext.trans ?_ (by assumption))))), hcb.alloc _⟩
              case measure => simp [intOf]; omega
            · go_wp2
              go_roundw
              case rel => exact ⟨i + 1, tv, by omega, by go_num, rfl, by omega, hOq.trans oa, hca⟩
              case measure => simp [intOf]; omega
      · have hiq : ¬ (i : Int) < (N : Int) := by omega
        have hb2 := hb.only hO2 hne
        go_wp2_with fail
        refine (l01Below_any w.heap.size B n c 12 _ hc2 hb2 hn hne (by omega) (by omega)).mono ?_
        rintro e w3 ⟨x, ⟨x0, x1'⟩, rfl, hc3, o3⟩
        have hb3 := hb2.only o3 hne
        have hO3 := hO2.trans o3
        by_cases e0 : x = 0
        · subst e0
          go_wp2_with fail
          have hxA : Ext w3 (w3.alloc (.cells #[.string ⟨#[32]⟩, .string ⟨#[32, 32]⟩, .string ⟨#[9]⟩, .string ⟨#[10]⟩, .string ⟨#[127]⟩, .string ⟨#[233]⟩] 9)) := by (repeat (first | exact Ext.refl _ | assumption | apply Ext.alloc | apply Ext.drew | apply Ext.drewN | (refine Ext.trans ?_ (by assumption))))
          refine (l01Pick_any w.heap.size B n c w3.heap.size 6 _ (hc3.alloc _) (hb3.ext hxA) hn hne (by have := hc3.lt; omega) (by simp) (by omega) (by omega) (lits6 w3 _ _ _ _ _ _ _ (fun x => x.size ≤ 10) (by decide) (by decide) (by decide) (by decide) (by decide) (by decide))).mono ?_
          rintro e w4 ⟨v, hv, rfl, hc4, o4⟩
          have hvi : (v.size : Int) ≤ 10 := by omega
          go_wp2
          go_ret
          exact ⟨_, rfl, Below.trans x1.below (((hO3.ext hxA).trans o4).below (Nat.le_refl _) x1.size)⟩
        · have f0 : (x == 0) = false := by simpa using e0
          by_cases e1 : x = 1
          · subst e1
            have hs6 : (s0.size : Int) < 600 := by omega
            go_wp2_with fail
            refine (l01Below_any w.heap.size B n c 2 _ hc3 hb3 hn hne (by omega) (by omega)).mono ?_
            rintro e w4 ⟨y, ⟨y0, y1⟩, rfl, hc4, o4⟩
            obtain ⟨m, hm⟩ : ∃ m : Nat, (m : Int) = 600 - (s0.size : Int) + y := ⟨(600 - (s0.size : Int) + y).toNat, by omega⟩
            have hl := long32 m w4 (by omega)
            rw [hm] at hl
            have HL := hide hl
            clear hl
            go_wp2_with fail
            refine HL.out.mono ?_
            rintro e w5 ⟨sp, hsp, rfl, x5⟩
            have hspi : (sp.size : Int) ≤ 700 := by omega
            have hspn : sp.size ≤ 700 := by omega
            go_wp2
            go_ret
            exact ⟨_, rfl, Below.trans x1.below (((hO3.trans o4).ext x5).below (Nat.le_refl _) x1.size)⟩
          · have f1 : (x == 1) = false := by simpa using e1
            go_wp2
            go_ret
            exact ⟨_, rfl, Below.trans x1.below (hO3.below (Nat.le_refl _) x1.size)⟩
  · go_wp2_with fail
    refine (l01Below_any w.heap.size B n c 2 _ hcB hbB hn hne (by omega) (by omega)).mono ?_
    rintro e wC ⟨x, ⟨x0, x1'⟩, rfl, hcC, oC⟩
    obtain ⟨N, hNx⟩ : ∃ N : Nat, 24 + x = (N : Int) := ⟨(24 + x).toNat, by omega⟩
    have hN : N ≤ 25 := by omega
    have hON : Only w.heap.size w1 wC := (oA.trans oB).trans oC
    have hcN := hcC
    clear x0 x1'
    go_wp2
    go_loopw [5, 6, 7] (fun t i _ wr => ∃ (i' : Nat) (s0 : ByteArray), i' ≤ N ∧ i = .int .i64 i' ∧ t = .string s0 ∧ (s0.size : Int) ≤ 8 * i' ∧ Only w.heap.size w1 wr ∧ Cur wr w.heap.size B n c) (fun _ i _ _ => N - (intOf i).toNat)
    case atStart => exact ⟨0, _, Nat.zero_le _, rfl, rfl, by decide, hON, hcN⟩
    case round =>
      obtain ⟨i, s0, hi, rfl, rfl, hs0, hO2, hc2⟩ := hrel
      obtain ⟨w2, rfl⟩ : ∃ w2 : World, w2 = wr := ⟨_, rfl⟩
      have hs0n : s0.size ≤ 1000 := by omega
      by_cases hiN : i < N
      · by_cases hi0 : i = 0
        · subst hi0
          have hb2' := hb.only hO2 hne
          go_wp2_with fail
          refine (l01Once_any w.heap.size B n c 5 _ hc2 hb2' hn hne (by omega) (by omega)).mono ?_
          rintro e w3' ⟨bo2, rfl, hc3', o3'⟩
          cases bo2
          · have hOv : Only w.heap.size w1 w3' := hO2.trans o3'
            have hcv := hc3'
            obtain ⟨sv, hsv⟩ : ∃ sv, s0 = sv := ⟨_, rfl⟩
            subst hsv
            have hsz : (s0.size : Int) ≤ (s0.size : Int) + 3 := by omega
            obtain ⟨i, hi1⟩ : ∃ i : Nat, i = 0 := ⟨_, rfl⟩
            have hbv := hb.only hOv hne
            go_wp2
            go_loopw [5, 7] (fun t k wr => ∃ (q : Nat) (tv : ByteArray), q ≤ 5 ∧ k = .int .i64 q ∧ t = .string tv ∧ (tv.size : Int) ≤ (s0.size : Int) + q ∧ Only w.heap.size w1 wr ∧ Cur wr w.heap.size B n c) (fun _ k _ => 5 - (intOf k).toNat)
            case atStart => exact ⟨0, s0, by omega, rfl, rfl, by simp, hOv, hcv⟩
            case round =>
              obtain ⟨q, tv, hq, rfl, rfl, htv, hOq, hcq⟩ := hrel
              obtain ⟨wp, rfl⟩ : ∃ wp : World, wp = wr := ⟨_, rfl⟩
              have hbp := hb.only hOq hne
              go_wp2_with fail
              refine (l01Below_any w.heap.size B n c 5 _ hcq hbp hn hne (by omega) (by omega)).mono ?_
              rintro e wa ⟨x, ⟨x0, x1⟩, rfl, hca, oa⟩
              have hba := hbp.only oa hne
              by_cases hqx : (q : Int) ≤ x
              · go_wp2_with fail
                refine (l01Below_any w.heap.size B n c 94 _ hca hba hn hne (by omega) (by omega)).mono ?_
                rintro e wb ⟨y, ⟨y0, y1⟩, rfl, hcb, ob⟩
                obtain ⟨b, hbb⟩ : ∃ b : UInt8, (b.toNat : Int) = 33 + y := ⟨UInt8.ofNat (33 + y).toNat, by rw [UInt8.toNat_ofNat']; omega⟩
                have z1 := wrap_in (33 + y) (by omega) (by omega)
                have z2 : IntKind.u8.wrap (33 + y) = (b.toNat : Int) := by rw [wraps_u8 _ (by omega) (by omega)]; omega
                have z3 : 33 + y = (b.toNat : Int) := hbb.symm
                have hcv1 := fun b W => conv_one (src := 30) (dst := 9) Tryd.underlying30 Tryd.underlying5 Tryd.underlying9 b W
                have htn : (tv.size : Int) ≤ 1000 := by omega
                clear hbb
                go_wp2
                go_roundw
                case rel => exact ⟨q + 1, _, by omega, by go_num, rfl, by simp [go_sem]; omega, ((hOq.trans oa).trans ob).ext (by (repeat (first | exact Ext.refl _ | assumption | apply Ext.alloc | apply Ext.drew | apply Ext.drewN | (refine Ext.trans ?_ (by assumption))))), hcb.alloc _⟩
                case measure => simp [intOf]; omega
              · go_wp2
                go_roundw
                case rel => exact ⟨i + 1, tv, by omega, by go_num, rfl, by omega, hOq.trans oa, hca⟩
                case measure => simp [intOf]; omega
          · have hO2 := hO2.trans o3'
            have hc2 := hc3'
            obtain ⟨i, hi1⟩ : ∃ i : Nat, i = 0 := ⟨_, rfl⟩
            have hb2 := hb.only hO2 hne
            go_wp2_with fail
            refine (l01Below_any w.heap.size B n c 2 _ hc2 hb2 hn hne (by omega) (by omega)).mono ?_
            rintro e w3 ⟨x, ⟨x0, x1⟩, rfl, hc3, o3⟩
            have hb3 := hb2.only o3 hne
            go_wp2_with fail
            refine (l01Below_any w.heap.size B n c 3 _ hc3 hb3 hn hne (by omega) (by omega)).mono ?_
            rintro e w4 ⟨y, ⟨y0, y1⟩, rfl, hc4, o4⟩
            obtain ⟨m, hm⟩ : ∃ m : Nat, (m : Int) = 1 + x * y := by
              have h1 : 0 ≤ x * y := Int.mul_nonneg x0 y0
              exact ⟨(1 + x * y).toNat, by omega⟩
            have hm2 : m ≤ 3 := by
              have h1 : x = 0 ∨ x = 1 := by omega
              rcases h1 with rfl | rfl <;> omega
            have z1 := wrap_in (x * y) (by omega) (by omega)
            have z2 := wrap_in (1 + x * y) (by omega) (by omega)
            have hl := long32 m w4 (by omega)
            rw [hm] at hl
            have HL := hide hl
            clear hl
            go_wp2_with fail
            refine HL.out.mono ?_
            rintro e w5 ⟨sp, hsp, rfl, x5⟩
            have hOv : Only w.heap.size w1 w5 := ((hO2.trans o3).trans o4).ext x5
            have hcv : Cur w5 w.heap.size B n c := by
              obtain ⟨i', h', q1, q2⟩ := hc4
              exact ⟨i', h', (x5.below.block _ (hp_lt q1)).trans q1, q2⟩
            obtain ⟨sv, hsv⟩ : ∃ sv, sv = s0 ++ sp := ⟨_, rfl⟩
            have hsz : (sv.size : Int) ≤ (s0.size : Int) + 3 := by rw [hsv, ByteArray.size_append']; omega
            have hsv2 : s0 ++ sp = sv := hsv.symm
            have hspi : (sp.size : Int) ≤ 3 := by omega
            have hspn : sp.size ≤ 3 := by omega
            clear hsv
            have hbv := hb.only hOv hne
            go_wp2
            go_loopw [5, 7] (fun t k wr => ∃ (q : Nat) (tv : ByteArray), q ≤ 5 ∧ k = .int .i64 q ∧ t = .string tv ∧ (tv.size : Int) ≤ (sv.size : Int) + q ∧ Only w.heap.size w1 wr ∧ Cur wr w.heap.size B n c) (fun _ k _ => 5 - (intOf k).toNat)
            case atStart => exact ⟨0, sv, by omega, rfl, rfl, by simp, hOv, hcv⟩
            case round =>
              obtain ⟨q, tv, hq, rfl, rfl, htv, hOq, hcq⟩ := hrel
              obtain ⟨wp, rfl⟩ : ∃ wp : World, wp = wr := ⟨_, rfl⟩
              have hbp := hb.only hOq hne
              go_wp2_with fail
              refine (l01Below_any w.heap.size B n c 5 _ hcq hbp hn hne (by omega) (by omega)).mono ?_
              rintro e wa ⟨x, ⟨x0, x1⟩, rfl, hca, oa⟩
              have hba := hbp.only oa hne
              by_cases hqx : (q : Int) ≤ x
              · go_wp2_with fail
                refine (l01Below_any w.heap.size B n c 94 _ hca hba hn hne (by omega) (by omega)).mono ?_
                rintro e wb ⟨y, ⟨y0, y1⟩, rfl, hcb, ob⟩
                obtain ⟨b, hbb⟩ : ∃ b : UInt8, (b.toNat : Int) = 33 + y := ⟨UInt8.ofNat (33 + y).toNat, by rw [UInt8.toNat_ofNat']; omega⟩
                have z1 := wrap_in (33 + y) (by omega) (by omega)
                have z2 : IntKind.u8.wrap (33 + y) = (b.toNat : Int) := by rw [wraps_u8 _ (by omega) (by omega)]; omega
                have z3 : 33 + y = (b.toNat : Int) := hbb.symm
                have hcv1 := fun b W => conv_one (src := 30) (dst := 9) Tryd.underlying30 Tryd.underlying5 Tryd.underlying9 b W
                have htn : (tv.size : Int) ≤ 1000 := by omega
                clear hbb
                go_wp2
                go_roundw
                case rel => exact ⟨q + 1, _, by omega, by go_num, rfl, by simp [go_sem]; omega, ((hOq.trans oa).trans ob).ext (by (repeat (first | exact Ext.refl _ | assumption | apply Ext.alloc | apply Ext.drew | apply Ext.drewN | (refine Ext.trans ?_ (by assumption))))), hcb.alloc _⟩
                case measure => simp [intOf]; omega
              · go_wp2
                go_roundw
                case rel => exact ⟨i + 1, tv, by omega, by go_num, rfl, by omega, hOq.trans oa, hca⟩
                case measure => simp [intOf]; omega
        · have hi1 : (0 : Int) < (i : Int) := by omega
          have hb2 := hb.only hO2 hne
          go_wp2_with fail
          refine (l01Below_any w.heap.size B n c 2 _ hc2 hb2 hn hne (by omega) (by omega)).mono ?_
          rintro e w3 ⟨x, ⟨x0, x1⟩, rfl, hc3, o3⟩
          have hb3 := hb2.only o3 hne
          go_wp2_with fail
          refine (l01Below_any w.heap.size B n c 3 _ hc3 hb3 hn hne (by omega) (by omega)).mono ?_
          rintro e w4 ⟨y, ⟨y0, y1⟩, rfl, hc4, o4⟩
          obtain ⟨m, hm⟩ : ∃ m : Nat, (m : Int) = 1 + x * y := by
            have h1 : 0 ≤ x * y := Int.mul_nonneg x0 y0
            exact ⟨(1 + x * y).toNat, by omega⟩
          have hm2 : m ≤ 3 := by
            have h1 : x = 0 ∨ x = 1 := by omega
            rcases h1 with rfl | rfl <;> omega
          have z1 := wrap_in (x * y) (by omega) (by omega)
          have z2 := wrap_in (1 + x * y) (by omega) (by omega)
          have hl := long32 m w4 (by omega)
          rw [hm] at hl
          have HL := hide hl
          clear hl
          go_wp2_with fail
          refine HL.out.mono ?_
          rintro e w5 ⟨sp, hsp, rfl, x5⟩
          have hOv : Only w.heap.size w1 w5 := ((hO2.trans o3).trans o4).ext x5
          have hcv : Cur w5 w.heap.size B n c := by
            obtain ⟨i', h', q1, q2⟩ := hc4
            exact ⟨i', h', (x5.below.block _ (hp_lt q1)).trans q1, q2⟩
          obtain ⟨sv, hsv⟩ : ∃ sv, sv = s0 ++ sp := ⟨_, rfl⟩
          have hsz : (sv.size : Int) ≤ (s0.size : Int) + 3 := by rw [hsv, ByteArray.size_append']; omega
          have hsv2 : s0 ++ sp = sv := hsv.symm
          have hspi : (sp.size : Int) ≤ 3 := by omega
          have hspn : sp.size ≤ 3 := by omega
          clear hsv
          have hbv := hb.only hOv hne
          go_wp2
          go_loopw [5, 7] (fun t k wr => ∃ (q : Nat) (tv : ByteArray), q ≤ 5 ∧ k = .int .i64 q ∧ t = .string tv ∧ (tv.size : Int) ≤ (sv.size : Int) + q ∧ Only w.heap.size w1 wr ∧ Cur wr w.heap.size B n c) (fun _ k _ => 5 - (intOf k).toNat)
          case atStart => exact ⟨0, sv, by omega, rfl, rfl, by simp, hOv, hcv⟩
          case round =>
            obtain ⟨q, tv, hq, rfl, rfl, htv, hOq, hcq⟩ := hrel
            obtain ⟨wp, rfl⟩ : ∃ wp : World, wp = wr := ⟨_, rfl⟩
            have hbp := hb.only hOq hne
            go_wp2_with fail
            refine (l01Below_any w.heap.size B n c 5 _ hcq hbp hn hne (by omega) (by omega)).mono ?_
            rintro e wa ⟨x, ⟨x0, x1⟩, rfl, hca, oa⟩
            have hba := hbp.only oa hne
            by_cases hqx : (q : Int) ≤ x
            · go_wp2_with fail
              refine (l01Below_any w.heap.size B n c 94 _ hca hba hn hne (by omega) (by omega)).mono ?_
              rintro e wb ⟨y, ⟨y0, y1⟩, rfl, hcb, ob⟩
              obtain ⟨b, hbb⟩ : ∃ b : UInt8, (b.toNat : Int) = 33 + y := ⟨UInt8.ofNat (33 + y).toNat, by rw [UInt8.toNat_ofNat']; omega⟩
              have z1 := wrap_in (33 + y) (by omega) (by omega)
              have z2 : IntKind.u8.wrap (33 + y) = (b.toNat : Int) := by rw [wraps_u8 _ (by omega) (by omega)]; omega
              have z3 : 33 + y = (b.toNat : Int) := hbb.symm
              have hcv1 := fun b W => conv_one (src := 30) (dst := 9) Tryd.underlying30 Tryd.underlying5 Tryd.underlying9 b W
              have htn : (tv.size : Int) ≤ 1000 := by omega
              clear hbb
              go_wp2
              go_roundw
              case rel => exact ⟨q + 1, _, by omega, by go_num, rfl, by simp [go_sem]; omega, ((hOq.trans oa).trans ob).ext (by (repeat (first | exact Ext.refl _ | assumption | apply Ext.alloc | apply Ext.drew | apply Ext.drewN | (refine Ext.trans ?_ (by assumption))))), hcb.alloc _⟩
              case measure => simp [intOf]; omega
            · go_wp2
              go_roundw
              case rel => exact ⟨i + 1, tv, by omega, by go_num, rfl, by omega, hOq.trans oa, hca⟩
              case measure => simp [intOf]; omega
      · have hiq : ¬ (i : Int) < (N : Int) := by omega
        have hb2 := hb.only hO2 hne
        go_wp2_with fail
        refine (l01Below_any w.heap.size B n c 12 _ hc2 hb2 hn hne (by omega) (by omega)).mono ?_
        rintro e w3 ⟨x, ⟨x0, x1'⟩, rfl, hc3, o3⟩
        have hb3 := hb2.only o3 hne
        have hO3 := hO2.trans o3
        by_cases e0 : x = 0
        · subst e0
          go_wp2_with fail
          have hxA : Ext w3 (w3.alloc (.cells #[.string ⟨#[32]⟩, .string ⟨#[32, 32]⟩, .string ⟨#[9]⟩, .string ⟨#[10]⟩, .string ⟨#[127]⟩, .string ⟨#[233]⟩] 9)) := by (repeat (first | exact Ext.refl _ | assumption | apply Ext.alloc | apply Ext.drew | apply Ext.drewN | (refine Ext.trans ?_ (by assumption))))
          refine (l01Pick_any w.heap.size B n c w3.heap.size 6 _ (hc3.alloc _) (hb3.ext hxA) hn hne (by have := hc3.lt; omega) (by simp) (by omega) (by omega) (lits6 w3 _ _ _ _ _ _ _ (fun x => x.size ≤ 10) (by decide) (by decide) (by decide) (by decide) (by decide) (by decide))).mono ?_
          rintro e w4 ⟨v, hv, rfl, hc4, o4⟩
          have hvi : (v.size : Int) ≤ 10 := by omega
          go_wp2
          go_ret
          exact ⟨_, rfl, Below.trans x1.below (((hO3.ext hxA).trans o4).below (Nat.le_refl _) x1.size)⟩
        · have f0 : (x == 0) = false := by simpa using e0
          by_cases e1 : x = 1
          · subst e1
            have hs6 : (s0.size : Int) < 600 := by omega
            go_wp2_with fail
            refine (l01Below_any w.heap.size B n c 2 _ hc3 hb3 hn hne (by omega) (by omega)).mono ?_
            rintro e w4 ⟨y, ⟨y0, y1⟩, rfl, hc4, o4⟩
            obtain ⟨m, hm⟩ : ∃ m : Nat, (m : Int) = 600 - (s0.size : Int) + y := ⟨(600 - (s0.size : Int) + y).toNat, by omega⟩
            have hl := long32 m w4 (by omega)
            rw [hm] at hl
            have HL := hide hl
            clear hl
            go_wp2_with fail
            refine HL.out.mono ?_
            rintro e w5 ⟨sp, hsp, rfl, x5⟩
            have hspi : (sp.size : Int) ≤ 700 := by omega
            have hspn : sp.size ≤ 700 := by omega
            go_wp2
            go_ret
            exact ⟨_, rfl, Below.trans x1.below (((hO3.trans o4).ext x5).below (Nat.le_refl _) x1.size)⟩
          · have f1 : (x == 1) = false := by simpa using e1
            go_wp2
            go_ret
            exact ⟨_, rfl, Below.trans x1.below (hO3.below (Nat.le_refl _) x1.size)⟩

set_option maxRecDepth 100000 in
set_option maxHeartbeats 1600000 in
theorem fieldsAgain_walk (B : Option Addr) (n c : Nat) (w : World) (hb : RB w B n) (htab : Lib.TabIs Tryd.prog w "internal/strconv.uint64pow10" .u64 Lib.pow10Tab) :
    Calls Tryd.prog 7 #[.slice B n c] w fun e w' => e = .returned (.bool true) ∧ Below w.heap.size w w' := by
  have HT := hide htab
  clear htab
  by_cases hbig : (1048576 : Int) < (n : Int)
  · go_enter Tryd.func7, Tryd.ntmps7
    go_wp2_with (go_at_call 15; refine (big_any _ _ _ _).mono ?_; rintro e w1 ⟨rfl, rfl⟩)
    go_ret
    exact ⟨rfl, Below.refl _ _⟩
  · have hn : n ≤ 1048576 := by omega
    go_enter Tryd.func7, Tryd.ntmps7
    go_wp2_with (go_at_call 15; refine (big_any _ _ _ _).mono ?_; rintro e w1 ⟨rfl, rfl⟩)
    refine (DrawSplitFields_any B n c w hb hn).mono ?_
    rintro e w1 ⟨s, rfl, x1⟩
    obtain ⟨V, hV⟩ : ∃ V, V = splitV s := ⟨_, rfl⟩
    obtain ⟨l, b⟩ := V
    have HV := hide hV
    clear hV
    go_wp2_with fail
    refine (SplitFields_any _ _).mono ?_
    rw [← HV.out]
    rintro e w2 ⟨G, g, rfl, og, x2⟩
    go_wp2_with fail
    refine (sSplitFields_any _ _).mono ?_
    rw [← HV.out]
    rintro e w3 ⟨Z, z, rfl, oz, x3⟩
    have og3 := (og.ext x3).r
    cases b
    · have hl := splitV_bad HV.out.symm
      subst hl
      have i3 : (itoa (-3) == [45, 51]) = true := by decide +kernel
      go_wp2_with (go_at_call 11; refine (FormatInt_any _ _ (by omega) (by omega) (tab_ext gTab HT.out (by (repeat (first | exact Ext.refl _ | assumption | apply Ext.alloc | apply Ext.drew | apply Ext.drewN | (refine Ext.trans ?_ (by assumption))))))).mono ?_; rintro e w4 ⟨rfl, x4⟩)
      go_ret
      exact ⟨rfl, Ext.below (by (repeat (first | exact Ext.refl _ | assumption | apply Ext.alloc | apply Ext.drew | apply Ext.drewN | (refine Ext.trans ?_ (by assumption)))))⟩
    · obtain ⟨hc, hg⟩ := splitV_good HV.out.symm
      have HG := hide hg
      clear hg
      go_wp2
      go_loopw [8, 9] (fun t i wr => ∃ k : Nat, k ≤ l.length ∧ i = .int .i64 k ∧ t = .string (joinK l k) ∧ Ext w3 wr) (fun _ i _ => l.length - (intOf i).toNat)
      case atStart => exact ⟨0, Nat.zero_le _, rfl, rfl, Ext.refl _⟩
      case round =>
        obtain ⟨k, hk, rfl, rfl, hx⟩ := hrel
        obtain ⟨wq, rfl⟩ : ∃ wq : World, wq = wr := ⟨_, rfl⟩
        have hz1 := joinK_size l HG.out k hk
        by_cases hlt : k < l.length
        · obtain ⟨b', off, rfl, _, hcell⟩ := (og3.ext hx) (by rw [strs_length]; omega)
          have y1 := (hcell k (by rw [strs_length]; exact hlt)).trans (strs_get l k hlt)
          have hf := (HG.out l[k] (List.getElem_mem _)).2.1
          have HJ := hide (joinK_succ l k hlt)
          clear hcell
          obtain ⟨f, hff⟩ : ∃ f, f = l[k] := ⟨_, rfl⟩
          rw [← hff] at y1 hf HJ
          clear hff
          have q2 : (k : Int) < (l.length : Int) := by omega
          have z0 : (joinK l k).size ≤ 20000 := by omega
          obtain ⟨t, ht⟩ : ∃ t, t = joinK l k := ⟨_, rfl⟩
          rw [← ht] at z0 HJ ⊢
          have z1 : (t.size : Int) ≤ 20000 := by omega
          have z2 : (f.size : Int) ≤ 600 := by omega
          clear ht hz1
          go_wp2
          go_roundw
          case rel => exact ⟨k + 1, by omega, by go_num, by rw [HJ.out]; rfl, hx⟩
          case measure => simp [intOf]; omega
        · have e : k = l.length := by omega
          have q2 : ¬ (k : Int) < (l.length : Int) := by omega
          have hz0 : (joinK l k).size ≤ 20000 := by omega
          obtain ⟨t, ht⟩ : ∃ t, t = joinK l k := ⟨_, rfl⟩
          rw [← ht] at hz0 ⊢
          by_cases hz : t.size ≤ 600
          · have HA := hide (show splitV t = (l, true) by rw [ht, e] at *; exact split_again HG.out hc hz)
            have n1 : decide ((600 : Int) < (t.size : Int)) = false := decide_eq_false (by omega)
            clear ht e hz1
            have og4 := og3.ext hx
            go_wp2_with fail
            refine (SplitFields_any _ _).mono ?_
            rw [HA.out]
            rintro e w4 ⟨H, h, rfl, oh, x4⟩
            have og5 := og4.ext x4
            go_wp2_with fail
            refine (sameTexts_same G H l g h _ og5 oh.r (by omega)).mono ?_
            rintro e w5 ⟨rfl, x5⟩
            go_wp2
            go_ret
            exact ⟨rfl, Ext.below (by (repeat (first | exact Ext.refl _ | assumption | apply Ext.alloc | apply Ext.drew | apply Ext.drewN | (refine Ext.trans ?_ (by assumption)))))⟩
          · have n1 : decide ((600 : Int) < (t.size : Int)) = true := decide_eq_true (by omega)
            clear ht e hz1
            go_wp2_with fail
            refine (SplitFields_any _ _).mono ?_
            rintro e w4 ⟨H, h, rfl, oh, x4⟩
            go_wp2
            go_ret
            exact ⟨rfl, Ext.below (by (repeat (first | exact Ext.refl _ | assumption | apply Ext.alloc | apply Ext.drew | apply Ext.drewN | (refine Ext.trans ?_ (by assumption)))))⟩

end Go.Proofs.YtkdhgngpapfkdaaDoor
