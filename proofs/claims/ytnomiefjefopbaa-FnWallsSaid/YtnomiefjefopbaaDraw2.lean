/-
  Contracts: further draws: a number below a great n, a pick out of a list of numbers, a number; an argument of bytes; the size's test.
-/
import Derived.Test.YtnomiefjefopbaaDraw
namespace Go.Proofs.Ytnomiefjefopbaa
open Go.RowKit Go.ChangeShapes Go.WideShapes Go.Joins Go.Deep

/-- an argument that is a slice of bytes -/
theorem open_bytes {P : Program} {H : Type} {enc : TypeId × Value → H} {w : World} {base : Nat} {spare : Nat → Bool} {held : Bool} {r : Reach} {b0 : Nat} {t e : TypeId} {v : Value} {d : DataW H} {p : List MemPlace} (hs : P.underlying t = some (.slice e)) (he : P.underlying e = some (.int .u8)) (hC : P.cellsOf e = 1)
    (hv : Value.okWide P w r b0 t v) (h : DataW.Trod enc P w base spare held t v d p) :
    ∃ (A : Option Addr) (n c : Nat), v = .slice A n c ∧ n ≤ c ∧ c ≤ maxLen ∧ RB w A n := by
  obtain ⟨a, len, cap, rfl⟩ := okWide_slice hs hv
  obtain ⟨fuel, hf⟩ := h
  rcases open_ints hs he hC hf with ⟨h1, _⟩ | ⟨b, len', cap', zs, h1, _, hlc, hm, hz, _, hcell, hwf⟩
  · simp [Value.cells] at h1
    obtain ⟨rfl, rfl, rfl⟩ := h1
    exact ⟨none, 0, 0, rfl, Nat.le_refl _, by unfold maxLen; omega, fun h => absurd h (by omega)⟩
  · simp [Value.cells] at h1
    obtain ⟨rfl, rfl, rfl⟩ := h1
    have hzl : len ≤ zs.length := by rw [hz]; split <;> omega
    refine ⟨some b, len, cap, rfl, hlc, hm, fun h0 => ?_⟩
    obtain ⟨b, off, spot⟩ := b
    have hspot : spot = none := by
      have h1 := hcell 0 (by omega)
      simpa [Addr.add] using World.cell?_spot h1
    subst hspot
    have ad : ∀ (b off j : Nat), (Addr.add ⟨b, off, none⟩ j) = ⟨b, off + j, none⟩ := fun b off j => by
      unfold Addr.add
      split
      · subst_vars; rfl
      · rfl
    refine ⟨b, off, rfl, ?_, fun k hk => ?_⟩
    · have h1 := hcell 0 (by omega)
      rw [ad] at h1
      exact block_lt_of_cell h1
    · have h1 := hcell k (by omega)
      rw [ad] at h1
      have h2 := hwf (zs.getD k 0) (by rw [List.getD_eq_getElem?_getD, List.getElem?_eq_getElem (by omega)]; exact List.getElem_mem _)
      simp [Lit.wf] at h2
      have e1 : IntKind.u8.min = 0 := by decide +kernel
      have e2 : IntKind.u8.max = 255 := by decide +kernel
      rw [e1, e2] at h2
      exact ⟨_, h1, h2.1, h2.2⟩

theorem big_any (B : Option Addr) (n c : Nat) (w : World) :
    Calls Try.prog 5 #[.slice B n c] w fun e w' => e = .returned (.bool (decide ((1048576 : Int) < (n : Int)))) ∧ w = w' := by
  go_enter Try.func5, Try.ntmps5
  go_wp2
  go_ret
  exact ⟨rfl, rfl⟩

set_option maxRecDepth 100000 in
set_option maxHeartbeats 800000 in
theorem l01BelowN_any (g : Nat) (B : Option Addr) (n c m : Nat) (w : World) (hc : Cur w g B n c) (hb : RB w B n) (hn : n ≤ 1048576) (hne : 0 < n → ∀ b off, B = some ⟨b, off, none⟩ → b ≠ g) (h0 : 256 < m) (h1 : m ≤ 4294967296) :
    Calls Try.prog 27 #[.pointer (some ⟨g, 0, none⟩), .int .i64 m] w (BelowP g B n c ((m : Int) - 1) w) := by
  go_enter Try.func27, Try.ntmps27
  go_wp2_with fail
  refine (l01Byte_any g B n c _ hc hb hn hne).mono ?_
  rintro e w1 ⟨x, ⟨x0, x1⟩, rfl, hc1, o1⟩
  have hb1 := hb.only o1 hne
  go_wp2_with fail
  refine (l01Byte_any g B n c _ hc1 hb1 hn hne).mono ?_
  rintro e w2 ⟨y, ⟨y0, y1⟩, rfl, hc2, o2⟩
  have hb2 := hb1.only o2 hne
  go_wp2_with fail
  refine (l01Byte_any g B n c _ hc2 hb2 hn hne).mono ?_
  rintro e w3 ⟨z, ⟨z0, z1⟩, rfl, hc3, o3⟩
  have hb3 := hb2.only o3 hne
  go_wp2_with fail
  refine (l01Byte_any g B n c _ hc3 hb3 hn hne).mono ?_
  rintro e w4 ⟨u, ⟨u0, u1⟩, rfl, hc4, o4⟩
  have hm0 : m ≠ 0 := by omega
  obtain ⟨s, hs⟩ : ∃ s : Int, s = x * 16777216 + y * 65536 + z * 256 + u := ⟨_, rfl⟩
  have e0 : 0 ≤ s := by omega
  have e1 : s.tmod (m : Int) = s % (m : Int) := Int.tmod_eq_emod_of_nonneg e0
  have e2 := Int.emod_nonneg s (show (m : Int) ≠ 0 by omega)
  have e3 := Int.emod_lt_of_pos s (show 0 < (m : Int) by omega)
  have z1' := wrap_in (s % (m : Int)) (by omega) (by omega)
  rw [hs] at e1 z1'
  clear hb1 hb2 hb3
  have HS := hide hs
  clear hs
  go_wp2
  go_ret
  exact ⟨_, ⟨by have := HS.out; rw [← this]; exact e2, by have := HS.out; rw [← this]; omega⟩, rfl, hc4, ((o1.trans o2).trans o3).trans o4⟩

/-- a drawn number of an int's size -/
def NumP (g : Nat) (B : Option Addr) (n c : Nat) (w : World) (e : Ending) (w' : World) : Prop :=
  ∃ x : Int, (-9223372036854775808 ≤ x ∧ x ≤ 9223372036854775807) ∧ e = .returned (.int .i64 x) ∧ Cur w' g B n c ∧ Only g w w'

theorem lits10 (w : World) (a0 a1 a2 a3 a4 a5 a6 a7 a8 a9 : Int) (T : TypeId) (Q : Int → Prop) (h0 : Q a0) (h1 : Q a1) (h2 : Q a2) (h3 : Q a3) (h4 : Q a4) (h5 : Q a5) (h6 : Q a6) (h7 : Q a7) (h8 : Q a8) (h9 : Q a9) :
    ∀ k, k < 10 → ∃ x : Int, (w.alloc (.cells #[.int .i64 a0, .int .i64 a1, .int .i64 a2, .int .i64 a3, .int .i64 a4, .int .i64 a5, .int .i64 a6, .int .i64 a7, .int .i64 a8, .int .i64 a9] T)).cell? ⟨w.heap.size, k, none⟩ = some (.int .i64 x) ∧ Q x := by
  intro k hk
  have h := heap_alloc_new w (.cells #[.int .i64 a0, .int .i64 a1, .int .i64 a2, .int .i64 a3, .int .i64 a4, .int .i64 a5, .int .i64 a6, .int .i64 a7, .int .i64 a8, .int .i64 a9] T)
  simp only [World.cell?, h]
  match k, hk with
  | 0, _ => exact ⟨_, rfl, h0⟩
  | 1, _ => exact ⟨_, rfl, h1⟩
  | 2, _ => exact ⟨_, rfl, h2⟩
  | 3, _ => exact ⟨_, rfl, h3⟩
  | 4, _ => exact ⟨_, rfl, h4⟩
  | 5, _ => exact ⟨_, rfl, h5⟩
  | 6, _ => exact ⟨_, rfl, h6⟩
  | 7, _ => exact ⟨_, rfl, h7⟩
  | 8, _ => exact ⟨_, rfl, h8⟩
  | 9, _ => exact ⟨_, rfl, h9⟩
  | k + 10, hk => exact absurd hk (by omega)

theorem hp_lt {w : World} {b : Nat} {o : Obj} (h : w.heap[b]? = some o) : b < w.heap.size := by
  rcases Nat.lt_or_ge b w.heap.size with h2 | h2
  · exact h2
  · rw [Array.getElem?_eq_none h2] at h; cases h

theorem Cur.alloc {w : World} {g : Nat} {B : Option Addr} {n c : Nat} (h : Cur w g B n c) (o : Obj) : Cur (w.alloc o) g B n c := by
  obtain ⟨i, hh, h1, h2⟩ := h
  exact ⟨i, hh, (((Ext.refl w).alloc o).below.block g (hp_lt h1)).trans h1, h2⟩
theorem Cur.lt {w : World} {g : Nat} {B : Option Addr} {n c : Nat} (h : Cur w g B n c) : g < w.heap.size := by
  obtain ⟨i, hh, h1, _⟩ := h
  exact hp_lt h1

end Go.Proofs.Ytnomiefjefopbaa
