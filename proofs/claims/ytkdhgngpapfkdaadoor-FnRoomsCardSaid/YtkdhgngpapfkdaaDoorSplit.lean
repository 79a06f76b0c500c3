/-
  Contracts: SplitFields of the program and of the reference.
-/
import Derived.Test.YtkdhgngpapfkdaaDoorStr
import Derived.Test.YtkdhgngpapfkdaaDoorJ1
namespace Go.Proofs.YtkdhgngpapfkdaaDoor
open Go.RowKit

theorem info_str : (Tryd.prog.info? 9).map (fun i => (i.zero, i.size, i.bytes)) = some (some (.string ⟨#[]⟩), 1, 16) := by kernel_rfl

/-- a new block's cells, as what an append takes -/
theorem news_allocS (w : World) (cs : List Value) (T : TypeId) : ∀ j u, cs[j]? = some u → (w.alloc (.cells cs.toArray T)).cell? ((⟨w.heap.size, 0, none⟩ : Addr).add j) = some u :=
  SLn.addr (fun j u hu => by
    have := heap_alloc_new w (.cells cs.toArray T)
    unfold World.cell?
    simp only [this]
    simpa using hu)

/-- the fields that end below i, and where the field that may be under way begins -/
def stF (s : ByteArray) : Nat → List ByteArray × Nat
  | 0 => ([], 0)
  | i + 1 => if i < s.size ∧ by8 s i ≠ 32 then stF s i else (if (stF s i).2 < i then (stF s i).1 ++ [s.extract (stF s i).2 i] else (stF s i).1, i + 1)
theorem stF_on {s : ByteArray} {i : Nat} (h : i < s.size) (h2 : by8 s i ≠ 32) : stF s (i + 1) = stF s i := by rw [stF, if_pos ⟨h, h2⟩]
theorem stF_off {s : ByteArray} {i : Nat} (h : ¬ (i < s.size ∧ by8 s i ≠ 32)) (h2 : (stF s i).2 < i) : stF s (i + 1) = ((stF s i).1 ++ [s.extract (stF s i).2 i], i + 1) := by rw [stF, if_neg h, if_pos h2]
theorem stF_off' {s : ByteArray} {i : Nat} (h : ¬ (i < s.size ∧ by8 s i ≠ 32)) (h2 : ¬ (stF s i).2 < i) : stF s (i + 1) = ((stF s i).1, i + 1) := by rw [stF, if_neg h, if_neg h2]
theorem stF_le (s : ByteArray) : ∀ i, (stF s i).2 ≤ i ∧ (stF s i).1.length ≤ i
  | 0 => by simp [stF]
  | i + 1 => by
    have ih := stF_le s i
    by_cases h : i < s.size ∧ by8 s i ≠ 32
    · rw [stF_on h.1 h.2]; omega
    · by_cases h2 : (stF s i).2 < i
      · rw [stF_off h h2]; simp; omega
      · rw [stF_off' h h2]; simp; omega
/-- a byte of a line -/
def okB (b : UInt8) : Bool := decide (32 ≤ b.toNat) && decide (b.toNat ≤ 126)
theorem okB_iff {b : UInt8} : okB b = true ↔ 32 ≤ b.toNat ∧ b.toNat ≤ 126 := by simp [okB]
def okK (s : ByteArray) (k : Nat) : Prop := ∀ q, q < k → q < s.size → okB (by8 s q) = true
theorem okK_succ {s : ByteArray} {k : Nat} (h : okK s k) (hb : okB (by8 s k) = true) : okK s (k + 1) := fun q hq h2 => by
  rcases Nat.lt_or_eq_of_le (Nat.lt_succ_iff.1 hq) with h1 | h1
  · exact h q h1 h2
  · rw [h1]; exact hb
def splitOk (s : ByteArray) : Prop := s.size ≤ 600 ∧ okK s s.size ∧ (stF s (s.size + 1)).1.length ≤ 24
open Classical in
/-- what SplitFields returns -/
noncomputable def splitV (s : ByteArray) : List ByteArray × Bool := if splitOk s then ((stF s (s.size + 1)).1, true) else ([], false)
theorem splitV_yes {s : ByteArray} (h : splitOk s) : splitV s = ((stF s (s.size + 1)).1, true) := by unfold splitV; rw [if_pos h]
theorem splitV_no {s : ByteArray} (h : ¬ splitOk s) : splitV s = ([], false) := by unfold splitV; rw [if_neg h]

/-- a new row of strings and a bool -/
def RetT (T : TypeId) (x : List ByteArray × Bool) (w : World) (e : Ending) (w' : World) : Prop := ∃ A' c', e = .returned (.tuple #[.slice A' x.1.length c', .bool x.2]) ∧ OwnV w' w.heap.size w'.heap.size T A' (strs x.1) ∧ Ext w w'



set_option maxRecDepth 100000 in
set_option maxHeartbeats 3200000 in
theorem sSplitFields_any (s : ByteArray) (w : World) :
    Calls Tryd.prog 23 #[.string s] w (RetT 9 (splitV s) w) := by
  obtain ⟨i0, hI, hZ, hS, hY⟩ := info_parts info_str
  by_cases hbig : 600 < s.size
  · have HN := hide (splitV_no (s := s) (fun h => by have := h.1; omega))
    have g5 : decide ((600 : Int) < (s.size : Int)) = true := decide_eq_true (by omega)
    go_enter Tryd.func23, Tryd.ntmps23
    go_wp2
    exact bodyPost_ret (v := .tuple #[.slice (some ⟨w.heap.size, 0, none⟩) 0 0, .bool false]) (by simp [results, Tryd.results23, go_sem]) rfl ⟨(some ⟨w.heap.size, 0, none⟩), 0, by rw [HN.out]; rfl, by rw [HN.out]; exact OwnV.nil, by (repeat (first | exact Ext.refl _ | assumption | apply Ext.alloc | apply Ext.drew | apply Ext.drewN | (refine Ext.trans ?_ (by assumption))))⟩
  · have g1 : s.size ≤ 600 := by omega
    have g5 : decide ((600 : Int) < (s.size : Int)) = false := decide_eq_false (by omega)
    clear hbig
    go_enter Tryd.func23, Tryd.ntmps23
    go_wp2
    go_loopw [4, 5, 6] (fun out bg i wr => ∃ (k d : Nat) (o : Value) (l : List ByteArray), k ≤ s.size + 1 ∧ i = .int .i64 k ∧ bg = .int .i64 d ∧ d ≤ k ∧ o = out ∧ Hid (stF s k = (l, d)) ∧ Hid (okK s k) ∧ Ext w wr ∧ wr.ownsRow w.heap.size 9 1 o l.length (strs l)) (fun _ _ i _ => s.size + 1 - (intOf i).toNat)
    case atStart => exact ⟨0, 0, _, [], by omega, rfl, rfl, by omega, rfl, hide rfl, hide (fun q h => absurd h (by omega)), by (repeat (first | exact Ext.refl _ | assumption | apply Ext.alloc | apply Ext.drew | apply Ext.drewN | (refine Ext.trans ?_ (by assumption)))), by simp [strs], .inr ⟨w.heap.size, 0, _, rfl, Nat.le_refl _, heap_alloc_new w _, Nat.zero_le _, by unfold maxLen; omega, by simp, by simp [strs]⟩⟩
    case round =>
      obtain ⟨k, d, o, l, hk, rfl, rfl, hdk, ho, HF, HK, hbl, hown⟩ := hrel; subst ho
      obtain ⟨wq, rfl⟩ : ∃ wq : World, wq = wr := ⟨_, rfl⟩
      have hll : l.length ≤ k := by have h := (stF_le s k).2; rw [HF.out] at h; exact h
      by_cases hle : k ≤ s.size
      · have q0 : (k : Int) ≤ (s.size : Int) := by omega
        by_cases hlt : k < s.size
        · have hb8 := by8_of s k hlt
          have hx2 : (by8 s k).toNat < 256 := by8_lt s k
          have q1 : (0 : Int) ≤ (k : Int) := by omega
          have q2 : (k : Int) < (s.size : Int) := by omega
          cases hd : okB (by8 s k)
          · have HN := hide (splitV_no (s := s) (fun h => by have h2 := h.2.1 k hlt hlt; rw [hd] at h2; cases h2))
            have HX := hide (show ¬ (32 ≤ (by8 s k).toNat ∧ (by8 s k).toNat ≤ 126) from fun h => by rw [okB_iff.2 h] at hd; cases hd)
            clear hd
            by_cases n1 : (by8 s k).toNat < 32
            · have n2 : decide (((by8 s k).toNat : Int) < 32) = true := decide_eq_true (by omega)
              go_wp2
              exact bodyPost_ret (v := .tuple #[.slice (some ⟨wq.heap.size, 0, none⟩) 0 0, .bool false]) (by simp [results, Tryd.results23, go_sem]) rfl ⟨(some ⟨wq.heap.size, 0, none⟩), 0, by rw [HN.out]; rfl, by rw [HN.out]; exact OwnV.nil, by (repeat (first | exact Ext.refl _ | assumption | apply Ext.alloc | apply Ext.drew | apply Ext.drewN | (refine Ext.trans ?_ (by assumption))))⟩
            · have n2 : decide (((by8 s k).toNat : Int) < 32) = false := decide_eq_false (by omega)
              have n3 : decide ((126 : Int) < ((by8 s k).toNat : Int)) = true := decide_eq_true (by have := HX.out; omega)
              go_wp2
              exact bodyPost_ret (v := .tuple #[.slice (some ⟨wq.heap.size, 0, none⟩) 0 0, .bool false]) (by simp [results, Tryd.results23, go_sem]) rfl ⟨(some ⟨wq.heap.size, 0, none⟩), 0, by rw [HN.out]; rfl, by rw [HN.out]; exact OwnV.nil, by (repeat (first | exact Ext.refl _ | assumption | apply Ext.alloc | apply Ext.drew | apply Ext.drewN | (refine Ext.trans ?_ (by assumption))))⟩
          · obtain ⟨n1, n2⟩ := okB_iff.1 hd
            have HS := hide (okK_succ HK.out hd)
            clear hd
            have n3 : decide (((by8 s k).toNat : Int) < 32) = false := decide_eq_false (by omega)
            have n4 : decide ((126 : Int) < ((by8 s k).toNat : Int)) = false := decide_eq_false (by omega)
            by_cases hsp : by8 s k = 32
            · have n5 : (((by8 s k).toNat : Int) == 32) = true := by rw [hsp]; rfl
              have HQ := hide (show ¬ (k < s.size ∧ by8 s k ≠ 32) from fun h => h.2 hsp)
              clear hsp
              by_cases hdl : d < k
              · have HO := hide (show stF s (k + 1) = (l ++ [s.extract d k], k + 1) by have h := HF.out; have h2 := stF_off (s := s) (i := k) HQ.out (by rw [h]; exact hdl); rw [h2, h])
                have p1 : (d : Int) < (k : Int) := by omega
                have p2 : (0 : Int) ≤ (d : Int) := by omega
                have p3 : (d : Int) ≤ (k : Int) := by omega
                have p4 : (0 : Int) ≤ (k : Int) := by omega
                go_wp2_with (at_builtin; refine wpList_app _ rfl (.tmp 48) (.tmp 53) _ rfl w.heap.size 9 i0 _ 1 16 Tryd.underlying38 hI hZ hS hY rfl (by omega) _ _ (strs l) (by rfl) (ownsRow_ext hown (by (repeat (first | exact Ext.refl _ | assumption | apply Ext.alloc | apply Ext.drew | apply Ext.drewN | (refine Ext.trans ?_ (by assumption)))))) ⟨wq.heap.size, 0, none⟩ 1 1 [.string (s.extract d k)] (by rfl) rfl (news_allocS wq [.string (s.extract d k)] 9) (by simp [Value.oneCell']) (by unfold maxLen; omega) (by omega) (show Ext w (wq.alloc (.cells #[.string (s.extract d k)] 9)) by (repeat (first | exact Ext.refl _ | assumption | apply Ext.alloc | apply Ext.drew | apply Ext.drewN | (refine Ext.trans ?_ (by assumption))))).size ?_; intro v' w3 hown3 hg3 _)
                have hx3 : Ext w w3 := ext_grown (show Ext w (wq.alloc (.cells #[.string (s.extract d k)] 9)) by (repeat (first | exact Ext.refl _ | assumption | apply Ext.alloc | apply Ext.drew | apply Ext.drewN | (refine Ext.trans ?_ (by assumption))))) hg3 (fun q hq => (hown.lt q hq).1)
                clear hown hg3
                go_wp2
                go_roundw
                case rel => exact ⟨k + 1, k + 1, _, l ++ [s.extract d k], by omega, by go_num, by go_num, Nat.le_refl _, rfl, HO, HS, hx3, by rw [strs_append, List.length_append]; exact hown3⟩
                case measure => simp [intOf]; omega
              · have HO := hide (show stF s (k + 1) = (l, k + 1) by have h := HF.out; have h2 := stF_off' (s := s) (i := k) HQ.out (by rw [h]; exact hdl); rw [h2, h])
                have p1 : ¬ (d : Int) < (k : Int) := by omega
                go_wp2
                go_roundw
                case rel => exact ⟨k + 1, k + 1, _, l, by omega, by go_num, by go_num, Nat.le_refl _, rfl, HO, HS, hbl, hown⟩
                case measure => simp [intOf]; omega
            · have n5 : (((by8 s k).toNat : Int) == 32) = false := by
                rw [beq_eq_false_iff_ne]
                intro e
                exact hsp (UInt8.toNat_inj.1 (by have h48 : (32 : UInt8).toNat = 32 := rfl; omega))
              have HO := hide (stF_on hlt hsp)
              clear hsp
              go_wp2
              go_roundw
              case rel => exact ⟨k + 1, d, _, l, by omega, by go_num, rfl, by omega, rfl, hide (by rw [HO.out, HF.out]), HS, hbl, hown⟩
              case measure => simp [intOf]; omega
        · have e : k = s.size := by omega
          have q2 : ¬ (k : Int) < (s.size : Int) := by omega
          have HQ := hide (show ¬ (k < s.size ∧ by8 s k ≠ 32) from fun h => hlt h.1)
          have HS := hide (show okK s (k + 1) from fun q _ h2 => HK.out q (by omega) h2)
          have E := hide e
          clear e hlt
          by_cases hdl : d < k
          · have HO := hide (show stF s (k + 1) = (l ++ [s.extract d k], k + 1) by have h := HF.out; have h2 := stF_off (s := s) (i := k) HQ.out (by rw [h]; exact hdl); rw [h2, h])
            have p1 : (d : Int) < (k : Int) := by omega
            have p2 : (0 : Int) ≤ (d : Int) := by omega
            have p3 : (d : Int) ≤ (k : Int) := by omega
            have p4 : (0 : Int) ≤ (k : Int) := by omega
            go_wp2_with (at_builtin; refine wpList_app _ rfl (.tmp 48) (.tmp 53) _ rfl w.heap.size 9 i0 _ 1 16 Tryd.underlying38 hI hZ hS hY rfl (by omega) _ _ (strs l) (by rfl) (ownsRow_ext hown (by (repeat (first | exact Ext.refl _ | assumption | apply Ext.alloc | apply Ext.drew | apply Ext.drewN | (refine Ext.trans ?_ (by assumption)))))) ⟨wq.heap.size, 0, none⟩ 1 1 [.string (s.extract d k)] (by rfl) rfl (news_allocS wq [.string (s.extract d k)] 9) (by simp [Value.oneCell']) (by unfold maxLen; omega) (by omega) (show Ext w (wq.alloc (.cells #[.string (s.extract d k)] 9)) by (repeat (first | exact Ext.refl _ | assumption | apply Ext.alloc | apply Ext.drew | apply Ext.drewN | (refine Ext.trans ?_ (by assumption))))).size ?_; intro v' w3 hown3 hg3 _)
            have hx3 : Ext w w3 := ext_grown (show Ext w (wq.alloc (.cells #[.string (s.extract d k)] 9)) by (repeat (first | exact Ext.refl _ | assumption | apply Ext.alloc | apply Ext.drew | apply Ext.drewN | (refine Ext.trans ?_ (by assumption))))) hg3 (fun q hq => (hown.lt q hq).1)
            clear hown hg3
            go_wp2
            go_roundw
            case rel => exact ⟨k + 1, k + 1, _, l ++ [s.extract d k], by omega, by go_num, by go_num, Nat.le_refl _, rfl, HO, HS, hx3, by rw [strs_append, List.length_append]; exact hown3⟩
            case measure => simp [intOf]; omega
          · have HO := hide (show stF s (k + 1) = (l, k + 1) by have h := HF.out; have h2 := stF_off' (s := s) (i := k) HQ.out (by rw [h]; exact hdl); rw [h2, h])
            have p1 : ¬ (d : Int) < (k : Int) := by omega
            go_wp2
            go_roundw
            case rel => exact ⟨k + 1, k + 1, _, l, by omega, by go_num, by go_num, Nat.le_refl _, rfl, HO, HS, hbl, hown⟩
            case measure => simp [intOf]; omega
      · have e : k = s.size + 1 := by omega
        have E := hide e
        have q0 : ¬ (k : Int) ≤ (s.size : Int) := by omega
        clear e hle
        have HE := hide (show (stF s (s.size + 1)).1 = l by rw [← E.out, HF.out])
        have HC := hide (show okK s s.size from fun q h1 h2 => HK.out q (by have := E.out; omega) h2)
        obtain ⟨A', c', rfl⟩ := row_slice hown
        by_cases hc : l.length ≤ 24
        · have HY := hide (splitV_yes (s := s) ⟨g1, HC.out, by rw [HE.out]; exact hc⟩)
          have n1 : decide ((24 : Int) < (l.length : Int)) = false := decide_eq_false (by omega)
          go_wp2
          exact bodyPost_ret (v := .tuple #[.slice A' l.length c', .bool true]) (by simp [results, Tryd.results23, go_sem]) rfl ⟨A', c', by rw [HY.out, HE.out], by rw [HY.out, HE.out]; exact (OwnV.of_own hown).2, by (repeat (first | exact Ext.refl _ | assumption | apply Ext.alloc | apply Ext.drew | apply Ext.drewN | (refine Ext.trans ?_ (by assumption))))⟩
        · have HN := hide (splitV_no (s := s) (fun h => hc (by rw [← HE.out]; exact h.2.2)))
          have n1 : decide ((24 : Int) < (l.length : Int)) = true := decide_eq_true (by omega)
          go_wp2
          exact bodyPost_ret (v := .tuple #[.slice (some ⟨wq.heap.size, 0, none⟩) 0 0, .bool false]) (by simp [results, Tryd.results23, go_sem]) rfl ⟨(some ⟨wq.heap.size, 0, none⟩), 0, by rw [HN.out]; rfl, by rw [HN.out]; exact OwnV.nil, by (repeat (first | exact Ext.refl _ | assumption | apply Ext.alloc | apply Ext.drew | apply Ext.drewN | (refine Ext.trans ?_ (by assumption))))⟩

theorem stF_run {s : ByteArray} {k : Nat} {l : List ByteArray} (h : stF s k = (l, k)) : ∀ j, k ≤ j → j ≤ s.size → (∀ q, k ≤ q → q < j → by8 s q ≠ 32) → stF s j = (l, k)
  | 0, h1, _, _ => by
    have : k = 0 := by omega
    subst this
    exact h
  | j + 1, h1, h2, h3 => by
    by_cases e : k = j + 1
    · rw [← e]; exact h
    · rw [stF_on (by omega) (h3 j (by omega) (by omega))]
      exact stF_run h j (by omega) (by omega) (fun q a b => h3 q a (by omega))

/-- what the program's loop knows at k -/
def InvF (s : ByteArray) (k : Nat) (l : List ByteArray) : Prop := stF s k = (l, k) ∨ ((k < s.size → by8 s k = 32) ∧ stF s (k + 1) = (l, k + 1))
theorem InvF.le {s : ByteArray} {k : Nat} {l : List ByteArray} (h : InvF s k l) : l.length ≤ k + 1 := by
  rcases h with h | ⟨_, h⟩
  · have := (stF_le s k).2; rw [h] at this; simp at this; omega
  · have := (stF_le s (k + 1)).2; rw [h] at this; exact this


set_option maxRecDepth 100000 in
set_option maxHeartbeats 3200000 in
theorem SplitFields_any (s : ByteArray) (w : World) :
    Calls Tryd.prog 22 #[.string s] w (RetT 9 (splitV s) w) := by
  obtain ⟨i0, hI, hZ, hS, hY⟩ := info_parts info_str
  by_cases hbig : 600 < s.size
  · have HN := hide (splitV_no (s := s) (fun h => by have := h.1; omega))
    have g5 : decide ((600 : Int) < (s.size : Int)) = true := decide_eq_true (by omega)
    go_enter Tryd.func22, Tryd.ntmps22
    go_wp2
    exact bodyPost_ret (v := .tuple #[.slice none 0 0, .bool false]) (by simp [results, Tryd.results22, go_sem]) rfl ⟨none, 0, by rw [HN.out]; rfl, by rw [HN.out]; exact OwnV.nil, by (repeat (first | exact Ext.refl _ | assumption | apply Ext.alloc | apply Ext.drew | apply Ext.drewN | (refine Ext.trans ?_ (by assumption))))⟩
  · have g1 : s.size ≤ 600 := by omega
    have g5 : decide ((600 : Int) < (s.size : Int)) = false := decide_eq_false (by omega)
    clear hbig
    go_enter Tryd.func22, Tryd.ntmps22
    go_wp2
    go_loopw [4] (fun i wr => ∃ k : Nat, k ≤ s.size ∧ i = .int .i64 k ∧ Hid (okK s k) ∧ Ext w wr) (fun i _ => s.size - (intOf i).toNat)
    case atStart => exact ⟨0, by omega, rfl, hide (fun q h => absurd h (by omega)), by (repeat (first | exact Ext.refl _ | assumption | apply Ext.alloc | apply Ext.drew | apply Ext.drewN | (refine Ext.trans ?_ (by assumption))))⟩
    case round =>
      obtain ⟨k, hk, rfl, HK, hbl⟩ := hrel
      obtain ⟨wq, rfl⟩ : ∃ wq : World, wq = wr := ⟨_, rfl⟩
      by_cases hlt : k < s.size
      · have hb8 := by8_of s k hlt
        have hx2 : (by8 s k).toNat < 256 := by8_lt s k
        have q1 : (0 : Int) ≤ (k : Int) := by omega
        have q2 : (k : Int) < (s.size : Int) := by omega
        cases hd : okB (by8 s k)
        · have HN := hide (splitV_no (s := s) (fun h => by have h2 := h.2.1 k hlt hlt; rw [hd] at h2; cases h2))
          have HX := hide (show ¬ (32 ≤ (by8 s k).toNat ∧ (by8 s k).toNat ≤ 126) from fun h => by rw [okB_iff.2 h] at hd; cases hd)
          clear hd
          by_cases n1 : (by8 s k).toNat < 32
          · have n2 : decide (((by8 s k).toNat : Int) < 32) = true := decide_eq_true (by omega)
            go_wp2
            exact bodyPost_ret (v := .tuple #[.slice none 0 0, .bool false]) (by simp [results, Tryd.results22, go_sem]) rfl ⟨none, 0, by rw [HN.out]; rfl, by rw [HN.out]; exact OwnV.nil, by (repeat (first | exact Ext.refl _ | assumption | apply Ext.alloc | apply Ext.drew | apply Ext.drewN | (refine Ext.trans ?_ (by assumption))))⟩
          · have n2 : decide (((by8 s k).toNat : Int) < 32) = false := decide_eq_false (by omega)
            have n3 : decide ((126 : Int) < ((by8 s k).toNat : Int)) = true := decide_eq_true (by have := HX.out; omega)
            go_wp2
            exact bodyPost_ret (v := .tuple #[.slice none 0 0, .bool false]) (by simp [results, Tryd.results22, go_sem]) rfl ⟨none, 0, by rw [HN.out]; rfl, by rw [HN.out]; exact OwnV.nil, by (repeat (first | exact Ext.refl _ | assumption | apply Ext.alloc | apply Ext.drew | apply Ext.drewN | (refine Ext.trans ?_ (by assumption))))⟩
        · obtain ⟨n1, n2⟩ := okB_iff.1 hd
          have HS := hide (okK_succ HK.out hd)
          clear hd
          have n3 : decide (((by8 s k).toNat : Int) < 32) = false := decide_eq_false (by omega)
          have n4 : decide ((126 : Int) < ((by8 s k).toNat : Int)) = false := decide_eq_false (by omega)
          go_wp2
          go_roundw
          case rel => exact ⟨k + 1, by omega, by go_num, HS, hbl⟩
          case measure => simp [intOf]; omega
      · have e : k = s.size := by omega
        have HC := hide (show okK s s.size by rw [← e]; exact HK.out)
        have q2 : ¬ (k : Int) < (s.size : Int) := by omega
        clear e hlt HK
        go_wp2
        go_loopw [5, 6, 7] (fun out i _ wr => ∃ (k : Nat) (o : Value) (l : List ByteArray), k ≤ s.size ∧ i = .int .i64 k ∧ o = out ∧ Hid (InvF s k l) ∧ Ext w wr ∧ wr.ownsRow w.heap.size 9 1 o l.length (strs l)) (fun _ i _ _ => s.size - (intOf i).toNat)
        case atStart => exact ⟨0, _, [], by omega, rfl, rfl, hide (.inl rfl), by (repeat (first | exact Ext.refl _ | assumption | apply Ext.alloc | apply Ext.drew | apply Ext.drewN | (refine Ext.trans ?_ (by assumption)))), by simp [strs], .inr ⟨wq.heap.size, 0, _, rfl, hbl.size, heap_alloc_new wq _, Nat.zero_le _, by unfold maxLen; omega, by simp, by simp [strs]⟩⟩
        case round =>
          obtain ⟨k2, o, l, hk2, rfl, ho, HI, hb2, hown⟩ := hrel; subst ho
          obtain ⟨wp, rfl⟩ : ∃ wp : World, wp = wr := ⟨_, rfl⟩
          have hll := HI.out.le
          clear hbl
          by_cases hlt : k2 < s.size
          · have hb8 := by8_of s k2 hlt
            have p1 : (0 : Int) ≤ (k2 : Int) := by omega
            have p2 : (k2 : Int) < (s.size : Int) := by omega
            by_cases hsp : by8 s k2 = 32
            · have n5 : (((by8 s k2).toNat : Int) == 32) = true := by rw [hsp]; rfl
              have HO := hide (show InvF s (k2 + 1) l from by
                rcases HI.out with h | ⟨_, h⟩
                · exact .inl (by rw [stF_off' (fun h => h.2 hsp) (by rw [h]; simp), h])
                · exact .inl h)
              clear hsp
              go_wp2
              go_roundw
              case rel => exact ⟨k2 + 1, _, l, by omega, by go_num, rfl, HO, hb2, hown⟩
              case measure => simp [intOf]; omega
            · have n5 : (((by8 s k2).toNat : Int) == 32) = false := by
                rw [beq_eq_false_iff_ne]
                intro e
                exact hsp (UInt8.toNat_inj.1 (by have h48 : (32 : UInt8).toNat = 32 := rfl; omega))
              have HA := hide (show stF s k2 = (l, k2) from by
                rcases HI.out with h | ⟨h, _⟩
                · exact h
                · exact absurd (h hlt) hsp)
              have HSP := hide hsp
              clear hsp HI
              go_wp2
              go_loopw [6] (fun i wr => ∃ j : Nat, k2 ≤ j ∧ j ≤ s.size ∧ i = .int .i64 j ∧ Hid (∀ q, k2 ≤ q → q < j → by8 s q ≠ 32) ∧ wp = wr) (fun i _ => s.size - (intOf i).toNat)
              case atStart => exact ⟨k2, Nat.le_refl _, by omega, rfl, hide (fun q a b => absurd a (by omega)), rfl⟩
              case round =>
                obtain ⟨j, hkj, hjs, rfl, HJ, rfl⟩ := hrel
                clear hb8 n5
                have t1 : (0 : Int) ≤ (j : Int) := by omega
                by_cases hjl : j < s.size
                · have hbj := by8_of s j hjl
                  have t2 : (j : Int) < (s.size : Int) := by omega
                  by_cases hjp : by8 s j = 32
                  · have m5 : (((by8 s j).toNat : Int) == 32) = true := by rw [hjp]; rfl
                    have HQ := hide (show ¬ (j < s.size ∧ by8 s j ≠ 32) from fun h => h.2 hjp)
                    have HB := hide (show j < s.size → by8 s j = 32 from fun _ => hjp)
                    have hne : j ≠ k2 := fun e => HSP.out (by rw [← e]; exact hjp)
                    clear hjp
                    have HO := hide (show InvF s j (l ++ [s.extract k2 j]) from .inr ⟨HB.out, by
                      have h := stF_run HA.out j hkj hjs HJ.out
                      have h2 := stF_off (s := s) (i := j) HQ.out (by rw [h]; simp; omega)
                      rw [h2, h]⟩)
                    have p3 : (k2 : Int) ≤ (j : Int) := by omega
                    have p4 : (j : Int) ≤ (s.size : Int) := by omega
                    go_wp2_with (at_builtin; refine wpList_app _ rfl (.tmp 51) (.tmp 56) _ rfl w.heap.size 9 i0 _ 1 16 Tryd.underlying38 hI hZ hS hY rfl (by omega) _ _ (strs l) (by rfl) (ownsRow_ext hown (by (repeat (first | exact Ext.refl _ | assumption | apply Ext.alloc | apply Ext.drew | apply Ext.drewN | (refine Ext.trans ?_ (by assumption)))))) ⟨wp.heap.size, 0, none⟩ 1 1 [.string (s.extract k2 j)] (by rfl) rfl (news_allocS wp [.string (s.extract k2 j)] 9) (by simp [Value.oneCell']) (by unfold maxLen; omega) (by omega) (show Ext w (wp.alloc (.cells #[.string (s.extract k2 j)] 9)) by (repeat (first | exact Ext.refl _ | assumption | apply Ext.alloc | apply Ext.drew | apply Ext.drewN | (refine Ext.trans ?_ (by assumption))))).size ?_; intro v' w3 hown3 hg3 _)
                    have hx3 : Ext w w3 := ext_grown (show Ext w (wp.alloc (.cells #[.string (s.extract k2 j)] 9)) by (repeat (first | exact Ext.refl _ | assumption | apply Ext.alloc | apply Ext.drew | apply Ext.drewN | (refine Ext.trans ?_ (by assumption))))) hg3 (fun q hq => (hown.lt q hq).1)
                    clear hown hg3
                    go_wp2
                    go_roundw
                    case rel => exact ⟨j, _, l ++ [s.extract k2 j], hjs, rfl, rfl, HO, hx3, by rw [strs_append, List.length_append]; exact hown3⟩
                    case measure => simp [intOf]; omega
                  · have m5 : (((by8 s j).toNat : Int) == 32) = false := by
                      rw [beq_eq_false_iff_ne]
                      intro e
                      exact hjp (UInt8.toNat_inj.1 (by have h48 : (32 : UInt8).toNat = 32 := rfl; omega))
                    have HJ2 := hide (show ∀ q, k2 ≤ q → q < j + 1 → by8 s q ≠ 32 from fun q a b => by
                      rcases Nat.lt_or_eq_of_le (Nat.lt_succ_iff.1 b) with h1 | h1
                      · exact HJ.out q a h1
                      · rw [h1]; exact hjp)
                    clear hjp
                    go_wp2
                    go_roundw
                    case rel => exact ⟨j + 1, by omega, by omega, by go_num, HJ2, by first | rfl | trivial⟩
                    case measure => simp [intOf]; omega
                · have t2 : ¬ (j : Int) < (s.size : Int) := by omega
                  have HQ := hide (show ¬ (j < s.size ∧ by8 s j ≠ 32) from fun h => hjl h.1)
                  have HB := hide (show j < s.size → by8 s j = 32 from fun h => absurd h hjl)
                  have hne : j ≠ k2 := by omega
                  have HO := hide (show InvF s j (l ++ [s.extract k2 j]) from .inr ⟨HB.out, by
                    have h := stF_run HA.out j hkj hjs HJ.out
                    have h2 := stF_off (s := s) (i := j) HQ.out (by rw [h]; simp; omega)
                    rw [h2, h]⟩)
                  have p3 : (k2 : Int) ≤ (j : Int) := by omega
                  have p4 : (j : Int) ≤ (s.size : Int) := by omega
                  go_wp2_with (at_builtin; refine wpList_app _ rfl (.tmp 51) (.tmp 56) _ rfl w.heap.size 9 i0 _ 1 16 Tryd.underlying38 hI hZ hS hY rfl (by omega) _ _ (strs l) (by rfl) (ownsRow_ext hown (by (repeat (first | exact Ext.refl _ | assumption | apply Ext.alloc | apply Ext.drew | apply Ext.drewN | (refine Ext.trans ?_ (by assumption)))))) ⟨wp.heap.size, 0, none⟩ 1 1 [.string (s.extract k2 j)] (by rfl) rfl (news_allocS wp [.string (s.extract k2 j)] 9) (by simp [Value.oneCell']) (by unfold maxLen; omega) (by omega) (show Ext w (wp.alloc (.cells #[.string (s.extract k2 j)] 9)) by (repeat (first | exact Ext.refl _ | assumption | apply Ext.alloc | apply Ext.drew | apply Ext.drewN | (refine Ext.trans ?_ (by assumption))))).size ?_; intro v' w3 hown3 hg3 _)
                  have hx3 : Ext w w3 := ext_grown (show Ext w (wp.alloc (.cells #[.string (s.extract k2 j)] 9)) by (repeat (first | exact Ext.refl _ | assumption | apply Ext.alloc | apply Ext.drew | apply Ext.drewN | (refine Ext.trans ?_ (by assumption))))) hg3 (fun q hq => (hown.lt q hq).1)
                  clear hown hg3
                  go_wp2
                  go_roundw
                  case rel => exact ⟨j, _, l ++ [s.extract k2 j], hjs, rfl, rfl, HO, hx3, by rw [strs_append, List.length_append]; exact hown3⟩
                  case measure => simp [intOf]; omega
          · have e : k2 = s.size := by omega
            have p2 : ¬ (k2 : Int) < (s.size : Int) := by omega
            have HE := hide (show (stF s (s.size + 1)).1 = l by
              rcases HI.out with h | ⟨_, h⟩
              · rw [← e, stF_off' (fun h => hlt h.1) (by rw [h]; simp), h]
              · rw [← e, h])
            clear e hlt
            obtain ⟨A', c', rfl⟩ := row_slice hown
            by_cases hc : l.length ≤ 24
            · have HY := hide (splitV_yes (s := s) ⟨g1, HC.out, by rw [HE.out]; exact hc⟩)
              have n1 : decide ((24 : Int) < (l.length : Int)) = false := decide_eq_false (by omega)
              go_wp2
              exact bodyPost_ret (v := .tuple #[.slice A' l.length c', .bool true]) (by simp [results, Tryd.results22, go_sem]) rfl ⟨A', c', by rw [HY.out, HE.out], by rw [HY.out, HE.out]; exact (OwnV.of_own hown).2, by (repeat (first | exact Ext.refl _ | assumption | apply Ext.alloc | apply Ext.drew | apply Ext.drewN | (refine Ext.trans ?_ (by assumption))))⟩
            · have HN := hide (splitV_no (s := s) (fun h => hc (by rw [← HE.out]; exact h.2.2)))
              have n1 : decide ((24 : Int) < (l.length : Int)) = true := decide_eq_true (by omega)
              go_wp2
              exact bodyPost_ret (v := .tuple #[.slice none 0 0, .bool false]) (by simp [results, Tryd.results22, go_sem]) rfl ⟨none, 0, by rw [HN.out]; rfl, by rw [HN.out]; exact OwnV.nil, by (repeat (first | exact Ext.refl _ | assumption | apply Ext.alloc | apply Ext.drew | apply Ext.drewN | (refine Ext.trans ?_ (by assumption))))⟩

end Go.Proofs.YtkdhgngpapfkdaaDoor
