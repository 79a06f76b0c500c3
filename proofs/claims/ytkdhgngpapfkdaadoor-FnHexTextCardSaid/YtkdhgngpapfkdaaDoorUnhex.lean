/-
  Contracts: DecodeHex of the program and of the reference.
-/
import Derived.Test.YtkdhgngpapfkdaaDoorHex
namespace Go.Proofs.YtkdhgngpapfkdaaDoor
open Go.RowKit

/-- the number that a hexadecimal digit stands for -/
def valN (b : UInt8) : Int := if 48 ≤ b.toNat ∧ b.toNat ≤ 57 then (b.toNat : Int) - 48 else if 97 ≤ b.toNat ∧ b.toNat ≤ 102 then (b.toNat : Int) - 87 else -1
theorem valN_bd (b : UInt8) : -1 ≤ valN b ∧ valN b < 16 := by
  unfold valN
  split
  · omega
  · split <;> omega
/-- pair k of a hexadecimal text -/
def pairOk (s : ByteArray) (k : Nat) : Bool := decide (0 ≤ valN (by8 s (2 * k))) && decide (0 ≤ valN (by8 s (2 * k + 1)))
def pairV (s : ByteArray) (k : Nat) : UInt8 := UInt8.ofNat (valN (by8 s (2 * k)) * 16 + valN (by8 s (2 * k + 1))).toNat
def decL (s : ByteArray) (k : Nat) : List UInt8 := (List.range k).map (pairV s)
theorem decL_succ (s : ByteArray) (k : Nat) : decL s (k + 1) = decL s k ++ [pairV s k] := by
  unfold decL
  rw [List.range_succ, List.map_append]
  rfl
theorem decL_length (s : ByteArray) (k : Nat) : (decL s k).length = k := by simp [decL]
/-- what DecodeHex returns -/
def decV (s : ByteArray) : Value := if s.size % 2 = 0 ∧ s.size ≤ 40000 ∧ ∀ k, k < s.size / 2 → pairOk s k = true then .tuple #[.string ⟨(decL s (s.size / 2)).toArray⟩, .bool true] else .tuple #[.string ⟨#[]⟩, .bool false]
theorem pairV_toNat {s : ByteArray} {k : Nat} (h : pairOk s k = true) : ((pairV s k).toNat : Int) = valN (by8 s (2 * k)) * 16 + valN (by8 s (2 * k + 1)) := by
  unfold pairOk at h
  simp only [Bool.and_eq_true, decide_eq_true_eq] at h
  have h1 := valN_bd (by8 s (2 * k))
  have h2 := valN_bd (by8 s (2 * k + 1))
  unfold pairV
  rw [UInt8.toNat_ofNat']
  omega

theorem hexDigit_any (b : UInt8) (w : World) : Calls Tryd.prog 47 #[.int .u8 (b.toNat : Int)] w fun e w' => e = .returned (.int .i64 (valN b)) ∧ Ext w w' := by
  have h1 : b.toNat < 256 := UInt8.toNat_lt _
  have HV := hide (show valN b = if 48 ≤ b.toNat ∧ b.toNat ≤ 57 then (b.toNat : Int) - 48 else if 97 ≤ b.toNat ∧ b.toNat ≤ 102 then (b.toNat : Int) - 87 else -1 from rfl)
  go_enter Tryd.func47, Tryd.ntmps47
  go_wp2
  all_goals (go_ret; refine ⟨ret_int ?_, Ext.refl _⟩; rw [HV.out]; (repeat' split) <;> omega)

set_option maxRecDepth 100000 in
set_option maxHeartbeats 1600000 in
theorem DecodeHex_any (s : ByteArray) (w : World) (hs : s.size ≤ 1048576) :
    Calls Tryd.prog 20 #[.string s] w fun e w' => e = .returned (decV s) ∧ Ext w w' := by
  obtain ⟨i0, hI, hZ, hS, hY⟩ := info_parts info_u8
  by_cases hodd : s.size % 2 = 0
  · obtain ⟨m, hm⟩ : ∃ m, s.size = 2 * m := ⟨s.size / 2, by omega⟩
    have HM := hide hm
    have HD := hide (show s.size / 2 = m by omega)
    have hmb : m ≤ 524288 := by omega
    have r1 : (s.size : Int).tmod 2 = 0 := by rw [Int.tmod_eq_emod_of_nonneg (by omega)]; omega
    have r2 : IntKind.i64.wrap ((s.size : Int).tdiv 2) = (m : Int) := by rw [Int.tdiv_eq_ediv_of_nonneg (by omega), wrap_in _ (by omega) (by omega)]; omega
    have r3 : (s.size : Int).tdiv 2 = (m : Int) := by rw [Int.tdiv_eq_ediv_of_nonneg (by omega)]; omega
    clear hm hodd
    by_cases hbig : m ≤ 20000
    · have hmk := fun W => run_makeRow (P := Tryd.prog) 30 5 i0 _ Tryd.underlying30 hI hZ .i64 .i64 0 m (Nat.zero_le _) (by rw [hY]; omega) (by omega) W
      rw [hS] at hmk
      simp only [Value.cells, Int.cast_ofNat_Int] at hmk
      have t1 : decide ((20000 : Int) < (m : Int)) = false := by simp; omega
      go_enter Tryd.func20, Tryd.ntmps20
      go_wp2
      go_loopw [4, 5, 6, 7] (fun out i _ _ wr => ∃ (k j : Nat) (o : Value), Hid (j = 2 * k) ∧ k ≤ m ∧ i = .int .i64 j ∧ o = out ∧ Ext w wr ∧ Hid (∀ q, q < k → pairOk s q = true) ∧ wr.ownsRow w.heap.size 5 1 o k (u8s (decL s k))) (fun _ i _ _ _ => s.size - (intOf i).toNat)
      case atStart => exact ⟨0, 0, _, hide rfl, Nat.zero_le _, rfl, rfl, by (repeat (first | exact Ext.refl _ | assumption | apply Ext.alloc | apply Ext.drew | apply Ext.drewN | (refine Ext.trans ?_ (by assumption)))), hide (fun q h => absurd h (by omega)), by simp [u8s, decL], .inr ⟨w.heap.size, m, _, rfl, Nat.le_refl _, heap_alloc_new w _, Nat.zero_le _, by unfold maxLen; omega, by simp [size_madeCells], by simp [u8s, decL]⟩⟩
      case round =>
        obtain ⟨k, j, o, HJ, hk, rfl, ho, hbl, HG, hown⟩ := hrel; subst ho
        obtain ⟨wq, rfl⟩ : ∃ wq : World, wq = wr := ⟨_, rfl⟩
        clear hmk
        by_cases hlt : k < m
        · have hj := HJ.out
          have hm := HM.out
          have hj1 : j < s.size := by omega
          have hj2 : j + 1 < s.size := by omega
          have q1 : (0 : Int) ≤ (j : Int) := by omega
          have q2 : (j : Int) < (s.size : Int) := by omega
          have q3 : (0 : Int) ≤ (j : Int) + 1 := by omega
          have q4 : (j : Int) + 1 < (s.size : Int) := by omega
          have q5 := wrap_in ((j : Int) + 1) (by omega) (by omega)
          have a1 : pairOk s k = (decide (0 ≤ valN (by8 s j)) && decide (0 ≤ valN (by8 s (j + 1)))) := by rw [hj]; rfl
          have a2 : ∀ h : pairOk s k = true, ((pairV s k).toNat : Int) = valN (by8 s j) * 16 + valN (by8 s (j + 1)) := fun h => by rw [hj]; exact pairV_toNat h
          have b1 := by8_of s j hj1
          have b2 := by8_of s (j + 1) hj2
          obtain ⟨x, hx⟩ : ∃ x, x = by8 s j := ⟨_, rfl⟩
          obtain ⟨y, hy⟩ : ∃ y, y = by8 s (j + 1) := ⟨_, rfl⟩
          rw [← hx] at b1 a1 a2
          rw [← hy] at b2 a1 a2
          have x1 := valN_bd x
          have y1 := valN_bd y
          clear hj hm hx hy
          have A1 := hide a1
          have A2 := hide a2
          clear a1 a2
          go_wp2
          refine wp_flow (by kernel_rfl) (by kernel_rfl) (fun u => ⟨#[_, _, _, _, _, _, u 9, u 10, _, _, _, _, _, _, _, _, _, _, _, _, _, _, _, _, _, _, _, _, u 0, u 1, u 2, u 3, u 4, u 5, u 6, u 7, u 8, _, _, _, _, _, _, _, _, _, _, _, _, _, _, _, _], _⟩) (fun i => List.getD [_, _, _, _, _, _, _, _, _, _, _] i undef) [is ?v7_0, is ?v7_1, is ?v7_2, is ?v7_3, is ?v7_4, is ?v7_5, is ?v7_6, is ?v7_7, is ?v7_8, is ?v7_9, is ?v7_10] (fun w' => True) _ rfl ?hC7 ?hs7 ?hV7 ?fin7
          case hC7 => exact fun _ _ => trivial
          case hs7 =>
            repeat' (first
              | exact FSteps.nil
              | refine FSteps.cons ?_ ?_
              | (refine FStep.off_ _ _ _ rfl rfl ?_ (fun _ => rfl) ?_; (focus (intro u w hd; simp [vOf, is, Region.binds] at hd; simp [hd])); (intro w'; exact rfl); done)
              | ((first
                  | refine FStep.plain rfl ?_
                  | (refine FStep.on_ _ _ _ rfl rfl ?_ ?_; (focus (intro u w hd; simp [vOf, is, Region.binds] at hd; simp [hd]))))
                 intro u w hW hC hd K hK
                 (try simp [vOf, is, Region.binds] at hd)
                 simp only [upd, Nat.reduceEqDiff, if_true, if_false] at hK
                 (try simp only [hd] at hK)
                 go_simp
                 (first
                   | (refine hK _ _ ?_ ?_; (first | exact rfl); (repeat (first | exact Ext.refl _ | assumption | apply Ext.alloc | apply Ext.drew | apply Ext.drewN | (refine Ext.trans ?_ (by assumption)))))
                   | (go_at_call 47; refine (hexDigit_any _ _).mono ?_; rintro e w1 ⟨rfl, hb⟩; (try go_simp); refine hK _ _ ?_ ?_; (first | exact rfl); (repeat (first | exact Ext.refl _ | assumption | apply Ext.alloc | apply Ext.drew | apply Ext.drewN | (refine Ext.trans ?_ (by assumption))))))))
          case hV7 => (simp only [List.forall_mem_cons]; simp [stable_is])
          case fin7 =>
            intro u w2 hW2 hC2 hd
            simp only [AllV, is] at hd
            simp only [hd]
            clear hd
            obtain ⟨wx, rfl⟩ : ∃ wx : World, wx = w2 := ⟨_, rfl⟩
            by_cases n1 : valN x < 0
            · have HV := hide (show decV s = .tuple #[.string ⟨#[]⟩, .bool false] by unfold decV; rw [if_neg (fun h => by have h2 := h.2.2 k (by rw [HD.out]; exact hlt); rw [A1.out] at h2; simp at h2; omega)])
              go_wp2
              exact bodyPost_ret (v := .tuple #[.string ⟨#[]⟩, .bool false]) (by simp [results, Tryd.results20, go_sem]) rfl ⟨by rw [HV.out], by (repeat (first | exact Ext.refl _ | assumption | apply Ext.alloc | apply Ext.drew | apply Ext.drewN | (refine Ext.trans ?_ (by assumption))))⟩
            · by_cases n2 : valN y < 0
              · have HV := hide (show decV s = .tuple #[.string ⟨#[]⟩, .bool false] by unfold decV; rw [if_neg (fun h => by have h2 := h.2.2 k (by rw [HD.out]; exact hlt); rw [A1.out] at h2; simp at h2; omega)])
                go_wp2
                exact bodyPost_ret (v := .tuple #[.string ⟨#[]⟩, .bool false]) (by simp [results, Tryd.results20, go_sem]) rfl ⟨by rw [HV.out], by (repeat (first | exact Ext.refl _ | assumption | apply Ext.alloc | apply Ext.drew | apply Ext.drewN | (refine Ext.trans ?_ (by assumption))))⟩
              · have hp : pairOk s k = true := by rw [A1.out]; simp; omega
                have HA := hide (A2.out hp)
                have n3 : IntKind.u8.wrap (valN x * 16 + valN y) = ((pairV s k).toNat : Int) := by rw [HA.out, wraps_u8 _ (by omega) (by omega)]
                have n4 : valN x * 16 + valN y = ((pairV s k).toNat : Int) := by rw [HA.out]
                go_wp2_with (at_builtin; refine wpList_app _ rfl (.tmp 43) (.tmp 49) _ rfl w.heap.size 5 i0 _ 1 1 Tryd.underlying30 hI hZ hS hY rfl (by omega) _ _ (u8s (decL s k)) (by rfl) (ownsRow_ext hown (by (repeat (first | exact Ext.refl _ | assumption | apply Ext.alloc | apply Ext.drew | apply Ext.drewN | (refine Ext.trans ?_ (by assumption)))))) ⟨wx.heap.size, 0, none⟩ 1 1 [.int .u8 ((pairV s k).toNat : Int)] (by rfl) rfl (news_alloc8 wx [.int .u8 ((pairV s k).toNat : Int)] 5) (by simp [Value.oneCell']) (by unfold maxLen; omega) (by omega) (show Ext w (wx.alloc (.cells #[.int .u8 ((pairV s k).toNat : Int)] 5)) by (repeat (first | exact Ext.refl _ | assumption | apply Ext.alloc | apply Ext.drew | apply Ext.drewN | (refine Ext.trans ?_ (by assumption))))).size ?_; intro v' w3 hown3 hg3 _)
                have hx3 : Ext w w3 := ext_grown (show Ext w (wx.alloc (.cells #[.int .u8 ((pairV s k).toNat : Int)] 5)) by (repeat (first | exact Ext.refl _ | assumption | apply Ext.alloc | apply Ext.drew | apply Ext.drewN | (refine Ext.trans ?_ (by assumption))))) hg3 (fun q hq => by have := ((ownsRow_ext hown (show Ext wq (wx.alloc (.cells #[.int .u8 ((pairV s k).toNat : Int)] 5)) by (repeat (first | exact Ext.refl _ | assumption | apply Ext.alloc | apply Ext.drew | apply Ext.drewN | (refine Ext.trans ?_ (by assumption)))))).lt q hq).1; simpa using this)
                clear hown hg3
                go_wp2
                go_roundw
                case rel => exact ⟨k + 1, j + 2, _, hide (by have := HJ.out; omega), by omega, by go_num, rfl, hx3, hide (fun q hq => by rcases Nat.lt_or_eq_of_le (Nat.lt_succ_iff.1 hq) with h | h; exact HG.out q h; rw [h]; exact hp), by rw [decL_succ, u8s_append]; exact hown3⟩
                case measure => simp [intOf]; omega
        · have e : k = m := by omega
          have E := hide e
          clear e
          have hj1 : ¬ (j : Int) < (s.size : Int) := by have := HJ.out; have := HM.out; have := E.out; omega
          have HV := hide (show decV s = .tuple #[.string ⟨(decL s k).toArray⟩, .bool true] by unfold decV; rw [HD.out, if_pos ⟨by have := HM.out; omega, by have := HM.out; omega, fun q hq => HG.out q (by rw [E.out]; exact hq)⟩, E.out])
          have hcv := conv_own (src := 30) (dst := 9) Tryd.underlying30 Tryd.underlying5 Tryd.underlying9 hown
          go_wp2
          refine bodyPost_ret (v := .tuple #[.string ⟨(decL s k).toArray⟩, .bool true]) (by simp [results, Tryd.results20, go_sem]) rfl ⟨by rw [HV.out], by (repeat (first | exact Ext.refl _ | assumption | apply Ext.alloc | apply Ext.drew | apply Ext.drewN | (refine Ext.trans ?_ (by assumption))))⟩
    · have t1 : decide ((20000 : Int) < (m : Int)) = true := by simp; omega
      have HV := hide (show decV s = .tuple #[.string ⟨#[]⟩, .bool false] by unfold decV; rw [if_neg (by have := HM.out; omega)])
      go_enter Tryd.func20, Tryd.ntmps20
      go_wp2
      exact bodyPost_ret (v := .tuple #[.string ⟨#[]⟩, .bool false]) (by simp [results, Tryd.results20, go_sem]) rfl ⟨by rw [HV.out], Ext.refl _⟩
  · have r1 : (s.size : Int).tmod 2 = 1 := by rw [Int.tmod_eq_emod_of_nonneg (by omega)]; omega
    have HV := hide (show decV s = .tuple #[.string ⟨#[]⟩, .bool false] by unfold decV; rw [if_neg (by omega)])
    go_enter Tryd.func20, Tryd.ntmps20
    go_wp2
    exact bodyPost_ret (v := .tuple #[.string ⟨#[]⟩, .bool false]) (by simp [results, Tryd.results20, go_sem]) rfl ⟨by rw [HV.out], Ext.refl _⟩

end Go.Proofs.YtkdhgngpapfkdaaDoor
