/-
  Contracts: drawn strings.
-/
import Derived.Test.YtkdhgngpapfkdaaDoorDraw2
import Derived.Test.YtkdhgngpapfkdaaDoorHex
namespace Go.Proofs.YtkdhgngpapfkdaaDoor
open Go.RowKit

theorem Only.grown {g : Nat} {w a b : World} {row : Option Nat} (h : Only g w a) (hg : a.grownBy b row) (hr : ∀ k, row = some k → w.heap.size ≤ k) : Only g w b :=
  ⟨hg.os.trans h.os, hg.tape.trans h.tape, hg.output.trans h.output, Nat.le_trans h.size hg.size, fun q hq hn => (hg.block q (Nat.lt_of_lt_of_le hq h.size) (fun e => by have := hr q e.symm; omega)).trans (h.block q hq hn)⟩
theorem Cur.grown {a b : World} {g : Nat} {B : Option Addr} {n c : Nat} {row : Option Nat} (h : Cur a g B n c) (hg : a.grownBy b row) (hr : row ≠ some g) : Cur b g B n c := by
  obtain ⟨i, hh, h1, h2⟩ := h
  exact ⟨i, hh, (hg.block g (hp_lt h1) (fun e => hr e.symm)).trans h1, h2⟩
theorem ownsRow_only {w w' : World} {base e size n g : Nat} {v : Value} {xs : List Value} (h : w.ownsRow base e size v n xs) (hx : Only g w w') (hb : g < base) : w'.ownsRow base e size v n xs := by
  refine h.kept (row := some g) ⟨hx.os, hx.tape, hx.output, hx.size, fun k hk hn => hx.block k hk (fun e => hn (by rw [e]))⟩ ?_
  cases hv : v.ownBlock with
  | none => exact .inl rfl
  | some q => exact .inr (fun e => by have := (h.lt q hv).1; injection e with e; omega)

theorem made_bytes (m : Nat) : madeCells #[.int .u8 0] (m * 1) = (u8s (List.replicate m 0)).toArray := by
  apply Array.ext
  · simp [size_madeCells, u8s]
  · intro i h1 h2
    have h3 : i < m := by simpa [size_madeCells] using h1
    have e1 : ∀ h : i < (u8s (List.replicate m 0)).toArray.size, (u8s (List.replicate m 0)).toArray[i] = .int .u8 0 := by
      intro h
      simp [u8s]
    rw [e1]
    simp [madeCells, Nat.mod_one]

theorem u8s_set (l : List UInt8) (k : Nat) (b : UInt8) : (u8s (l.set k b)) = (u8s l).set k (.int .u8 (b.toNat : Int)) := by simp [u8s, List.map_set]

set_option maxRecDepth 100000 in
set_option maxHeartbeats 800000 in
theorem l01Long_any (m : Nat) (b : UInt8) (w : World) (hm : m ≤ 1048576) :
    Calls Tryd.prog 45 #[.int .i64 m, .int .u8 (b.toNat : Int)] w fun e w' => ∃ s : ByteArray, s.size = m ∧ e = .returned (.string s) ∧ Ext w w' := by
  obtain ⟨i0, hI, hZ, hS, hY⟩ := info_parts info_u8
  have hmk := fun W => run_makeRow (P := Tryd.prog) 30 5 i0 _ Tryd.underlying30 hI hZ .i64 .i64 m m (Nat.le_refl _) (by rw [hY]; omega) (by omega) W
  rw [hS] at hmk
  simp only [Value.cells, made_bytes] at hmk
  go_enter Tryd.func45, Tryd.ntmps45
  go_wp2
  go_loopw [6] (fun i wr => ∃ (k : Nat) (l : List UInt8), k ≤ m ∧ i = .int .i64 k ∧ l.length = m ∧ Ext w wr ∧ wr.heap[w.heap.size]? = some (.cells (u8s l).toArray 5 (0, 0))) (fun i _ => m - (intOf i).toNat)
  case atStart => exact ⟨0, List.replicate m 0, Nat.zero_le _, rfl, by simp, by (repeat (first | exact Ext.refl _ | assumption | apply Ext.alloc | apply Ext.drew | apply Ext.drewN | (refine Ext.trans ?_ (by assumption)))), heap_alloc_new w _⟩
  case round =>
    obtain ⟨k, l, hk, rfl, hl, hbl, hblk⟩ := hrel
    obtain ⟨wq, rfl⟩ : ∃ wq : World, wq = wr := ⟨_, rfl⟩
    clear hmk
    have HL := hide hl
    clear hl
    by_cases hlt : k < m
    · have q2 : (k : Int) < (m : Int) := by omega
      have c1 : wq.frozen? ⟨w.heap.size, k, none⟩ = false := by simp [World.frozen?, hblk]
      have c2 : wq.cell? ⟨w.heap.size, k, none⟩ = some (.int .u8 ((l.getD k 0).toNat : Int)) := by
        have hl := HL.out
        simp [World.cell?, hblk, u8s, List.getElem?_eq_getElem (show k < l.length by omega)]
      have hsz := hp_lt hblk
      have hset : (wq.setCell ⟨w.heap.size, k, none⟩ (.int .u8 (b.toNat : Int))).heap[w.heap.size]? = some (.cells (u8s (l.set k b)).toArray 5 (0, 0)) := by
        simp [World.setCell, Array.getElem?_modify, hblk, u8s_set]
      have HS := hide hset
      clear hset hblk
      go_wp2
      go_roundw
      case rel => exact ⟨k + 1, l.set k b, by omega, by go_num, by rw [List.length_set]; exact HL.out, hbl.setCell (Nat.le_refl _) _, HS.out⟩
      case measure => simp [intOf]; omega
    · have e : k = m := by omega
      have hl := HL.out
      have hown : wq.ownsRow w.heap.size 5 1 (.slice (some ⟨w.heap.size, 0, none⟩) m m) m (u8s l) := ⟨by rw [u8s_length]; omega, .inr ⟨w.heap.size, m, _, rfl, Nat.le_refl _, hblk, Nat.le_refl _, by unfold maxLen; omega, by simp [u8s]; omega, by rw [← hl, Nat.mul_one, ← u8s_length]; simp⟩⟩
      have hcv := conv_own (src := 30) (dst := 9) Tryd.underlying30 Tryd.underlying5 Tryd.underlying9 hown
      clear hl hown hblk e
      go_wp2
      go_ret
      exact ⟨_, by rw [← HL.out]; rfl, rfl, hbl⟩

/-- a drawn string of m bytes -/
def TextP (g : Nat) (B : Option Addr) (n c m : Nat) (w : World) (e : Ending) (w' : World) : Prop :=
  ∃ s : ByteArray, s.size = m ∧ e = .returned (.string s) ∧ Cur w' g B n c ∧ Only g w w'

set_option maxRecDepth 100000 in
set_option maxHeartbeats 1600000 in
theorem l01Text_any (g : Nat) (B : Option Addr) (n c m : Nat) (w : World) (hc : Cur w g B n c) (hb : RB w B n) (hn : n ≤ 1048576) (hne : 0 < n → ∀ b off, B = some ⟨b, off, none⟩ → b ≠ g) (hm : m ≤ 5000) :
    Calls Tryd.prog 46 #[.pointer (some ⟨g, 0, none⟩), .int .i64 m] w (TextP g B n c m w) := by
  obtain ⟨i0, hI, hZ, hS, hY⟩ := info_parts info_u8
  have hgw := hc.lt
  have hm1 : decide ((5000 : Int) < (m : Int)) = false := decide_eq_false (by omega)
  go_enter Tryd.func46, Tryd.ntmps46
  go_wp2
  go_loopw [5, 6] (fun out i wr => ∃ (k : Nat) (l : List UInt8) (o : Value), k ≤ m ∧ i = .int .i64 k ∧ o = out ∧ Hid (l.length = k) ∧ Only g w wr ∧ Cur wr g B n c ∧ wr.ownsRow w.heap.size 5 1 o k (u8s l)) (fun _ i _ => m - (intOf i).toNat)
  case atStart => exact ⟨0, [], _, Nat.zero_le _, rfl, rfl, hide rfl, Only.of_ext (by (repeat (first | exact Ext.refl _ | assumption | apply Ext.alloc | apply Ext.drew | apply Ext.drewN | (refine Ext.trans ?_ (by assumption))))), hc.alloc _, by simp [u8s], .inr ⟨w.heap.size, 0, _, rfl, Nat.le_refl _, heap_alloc_new w _, Nat.zero_le _, by unfold maxLen; omega, by simp, by simp [u8s]⟩⟩
  case round =>
    obtain ⟨k, l, o, hk, rfl, ho, HL, hO, hcq, hown⟩ := hrel; subst ho
    obtain ⟨wq, rfl⟩ : ∃ wq : World, wq = wr := ⟨_, rfl⟩
    have hbq := hb.only hO hne
    by_cases hlt : k < m
    · have q2 : (k : Int) < (m : Int) := by omega
      go_wp2_with fail
      refine (l01Byte_any g B n c _ hcq hbq hn hne).mono ?_
      rintro e w1 ⟨x, ⟨x0, x1⟩, rfl, hc1, o1⟩
      obtain ⟨y, hy⟩ : ∃ y : UInt8, (y.toNat : Int) = x := ⟨UInt8.ofNat x.toNat, by rw [UInt8.toNat_ofNat']; omega⟩
      subst hy
      have hown1 := ownsRow_only hown o1 hgw
      have n3 : IntKind.u8.wrap (y.toNat : Int) = (y.toNat : Int) := wraps_u8 _ (by omega) (by omega)
      have hsz1 := (hO.trans o1).size
      go_wp2_with (at_builtin; refine wpList_app _ rfl (.tmp 15) (.tmp 19) _ rfl w.heap.size 5 i0 _ 1 1 Tryd.underlying30 hI hZ hS hY rfl (by omega) _ _ (u8s l) (by rfl) (ownsRow_ext hown1 (by (repeat (first | exact Ext.refl _ | assumption | apply Ext.alloc | apply Ext.drew | apply Ext.drewN | (refine Ext.trans ?_ (by assumption)))))) ⟨w1.heap.size, 0, none⟩ 1 1 [.int .u8 (y.toNat : Int)] (by rfl) rfl (news_alloc8 w1 [.int .u8 (y.toNat : Int)] 5) (by simp [Value.oneCell']) (by unfold maxLen; omega) (by omega) (by simp; omega) ?_; intro v' w3 hown3 hg3 _)
      have hr : ∀ q, o.ownBlock = some q → w.heap.size ≤ q := fun q hq => (hown1.lt q hq).1
      have hO3 : Only g w w3 := Only.grown ((hO.trans o1).ext (show Ext w1 (w1.alloc (.cells #[.int .u8 (y.toNat : Int)] 5)) by (repeat (first | exact Ext.refl _ | assumption | apply Ext.alloc | apply Ext.drew | apply Ext.drewN | (refine Ext.trans ?_ (by assumption)))))) hg3 hr
      have hc3 := (hc1.alloc (.cells #[.int .u8 (y.toNat : Int)] 5)).grown hg3 (fun e => by have := hr g e; omega)
      clear hown hown1 hg3 hr
      go_wp2
      go_roundw
      case rel => exact ⟨k + 1, l ++ [y], _, by omega, by go_num, rfl, hide (by rw [List.length_append, HL.out]; rfl), hO3, hc3, by rw [u8s_append]; exact hown3⟩
      case measure => simp [intOf]; omega
    · have e : k = m := by omega
      have E := hide e
      clear e
      have hcv := conv_own (src := 30) (dst := 9) Tryd.underlying30 Tryd.underlying5 Tryd.underlying9 hown
      go_wp2
      go_ret
      exact ⟨_, by rw [← E.out, ← HL.out]; rfl, rfl, hcq, hO⟩

end Go.Proofs.YtkdhgngpapfkdaaDoor
