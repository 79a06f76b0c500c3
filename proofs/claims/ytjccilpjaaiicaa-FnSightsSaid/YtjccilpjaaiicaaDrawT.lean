/-
  Contracts: numbers below any small bound; a drawn point of a floor; the draw of a sight.
-/
import Derived.Test.YtjccilpjaaiicaaDrawQ
import Derived.Test.YtjccilpjaaiicaaSFloor
import Derived.Test.YtjccilpjaaiicaaJ5
import Derived.Test.YtjccilpjaaiicaaJ3
namespace Go.Proofs.Ytjccilpjaaiicaa
open Go.RowKit

theorem Cur.ext {a b : World} {g : Nat} {B : Option Addr} {n c : Nat} (h : Cur a g B n c) (hx : Ext a b) : Cur b g B n c := by
  obtain ⟨i, hh, h1, h2⟩ := h
  exact ⟨i, hh, (hx.below.block g (heap_lt h1)).trans h1, h2⟩

theorem Cur.set_far {w : World} {g : Nat} {B : Option Addr} {n c : Nat} (h : Cur w g B n c) {p : Addr} (hp : p.block ≠ g) (u : Value) : Cur (w.setCell p u) g B n c := by
  obtain ⟨i, hh, h1, h2⟩ := h
  exact ⟨i, hh, (Below.heap_setCell _ _ _ _ (Ne.symm hp)).trans h1, h2⟩

set_option maxRecDepth 100000 in
set_option maxHeartbeats 1600000 in
theorem l01Below_big (g : Nat) (B : Option Addr) (n c m : Nat) (w : World) (hc : Cur w g B n c) (hb : RB w B n) (hn : n ≤ 1048576) (hne : 0 < n → ∀ b off, B = some ⟨b, off, none⟩ → b ≠ g) (h0 : 0 < m) (h1 : m ≤ 1000000) :
    Calls Try.prog 28 #[.pointer (some ⟨g, 0, none⟩), .int .i64 m] w (BelowP g B n c ((m : Int) - 1) w) := by
  by_cases hs : m ≤ 256
  · exact l01Below_any g B n c m w hc hb hn hne h0 hs
  · have hs2 : ¬ (m : Int) ≤ 256 := by omega
    go_enter Try.func28, Try.ntmps28
    go_wp2_with fail
    refine (l01Byte_any g B n c _ hc hb hn hne).mono ?_
    rintro e w1 ⟨x, ⟨x0, x1⟩, rfl, hc1, o1⟩
    go_wp2_with fail
    refine (l01Byte_any g B n c _ hc1 (hb.only o1 hne) hn hne).mono ?_
    rintro e w2 ⟨y, ⟨y0, y1⟩, rfl, hc2, o2⟩
    go_wp2_with fail
    refine (l01Byte_any g B n c _ hc2 ((hb.only o1 hne).only o2 hne) hn hne).mono ?_
    rintro e w3 ⟨z, ⟨z0, z1⟩, rfl, hc3, o3⟩
    go_wp2_with fail
    refine (l01Byte_any g B n c _ hc3 (((hb.only o1 hne).only o2 hne).only o3 hne) hn hne).mono ?_
    rintro e w4 ⟨v, ⟨v0, v1⟩, rfl, hc4, o4⟩
    have f1 := wrap_in (x * 16777216) (by omega) (by omega)
    have f2 := wrap_in (y * 65536) (by omega) (by omega)
    have f3 := wrap_in (x * 16777216 + y * 65536) (by omega) (by omega)
    have f4 := wrap_in (z * 256) (by omega) (by omega)
    have f5 := wrap_in (x * 16777216 + y * 65536 + z * 256) (by omega) (by omega)
    obtain ⟨s, hsum⟩ : ∃ s, s = x * 16777216 + y * 65536 + z * 256 + v := ⟨_, rfl⟩
    have f6 : IntKind.i64.wrap (x * 16777216 + y * 65536 + z * 256 + v) = s := by rw [hsum]; exact wrap_in _ (by omega) (by omega)
    have hs0 : 0 ≤ s := by omega
    have hm0 : m ≠ 0 := by omega
    have e1 : s.tmod (m : Int) = s % (m : Int) := Int.tmod_eq_emod_of_nonneg hs0
    have e2 := Int.emod_nonneg s (show (m : Int) ≠ 0 by omega)
    have e3 := Int.emod_lt_of_pos s (show 0 < (m : Int) by omega)
    have z9 := wrap_in (s % (m : Int)) (by omega) (by omega)
    clear hsum
    go_wp2
    go_ret
    exact ⟨_, ⟨e2, by omega⟩, rfl, hc4, ((o1.trans o2).trans o3).trans o4⟩

set_option maxRecDepth 100000 in
set_option maxHeartbeats 3200000 in
theorem l08Point_any (g : Nat) (B : Option Addr) (n c : Nat) (A : Option Addr) (l : List (Int × Int)) (c1 N : Nat) (w : World) (hc : CS g B n c w) (hn : n ≤ 1048576) (hne : 0 < n → ∀ b off, B = some ⟨b, off, none⟩ → b ≠ g) (hgw : g < w.heap.size) (hN : l.length = N) (hp : RPts w A l) (hr : roomB l = true) (hfl : 0 < (floorL l).length) :
    Calls Try.prog 20 #[.pointer (some ⟨g, 0, none⟩), .agg #[.slice A N c1]] w fun e w' => ∃ x y : Int, e = .returned (.agg #[.int .i64 x, .int .i64 y]) ∧ (x, y) ∈ floorL l ∧ CS g B n c w' ∧ Only g w w' := by
  have hfV : floorV l = floorL l := by unfold floorV; rw [if_pos hr]
  have hf6 := floorL_le (roomB_fine hr).1 (by have := (roomB_fine hr).2; omega)
  have h10 := (roomB_fine hr).1.2
  obtain ⟨F, hF⟩ : ∃ F, floorL l = F := ⟨_, rfl⟩
  rw [hF] at hfV hfl hf6
  obtain ⟨Q, hQ⟩ : ∃ Q, F.length = Q := ⟨_, rfl⟩
  rw [hQ] at hfl hf6
  have HF := hide hF
  have HFV := hide hfV
  have HQ := hide hQ
  have HN := hide hN
  have hN10 : l.length ≤ 1048576 := by omega
  have HN10 := hide hN10
  have q1 : ((Q : Int) == 0) = false := by simp only [beq_eq_false_iff_ne]; omega
  clear hF hfV hQ hN10 h10
  go_enter Try.func20, Try.ntmps20
  have hlow := hne
  obtain ⟨W0, hW0⟩ : ∃ W0, W0 = (w.alloc (.cells #[.slice A N c1] 26)).alloc (.cells #[.int .i64 0, .int .i64 0] 28) := ⟨_, rfl⟩
  have x0 : Ext w W0 := by rw [hW0]; (repeat (first | exact Ext.refl _ | assumption | apply Ext.alloc | apply Ext.drew | apply Ext.drewN | (refine Ext.trans ?_ (by assumption))))
  have p0 : PtC W0 (w.heap.size + 1) 0 0 := by
    have h := heap_alloc_new (w.alloc (.cells #[.slice A N c1] 26)) (.cells #[.int .i64 0, .int .i64 0] 28)
    have e : (w.alloc (.cells #[.slice A N c1] 26)).heap.size = w.heap.size + 1 := by simp
    rw [e] at h
    rw [hW0]; exact h
  have c0 : CS g B n c W0 := ⟨by rw [hW0]; exact (hc.1.alloc _).alloc _, hc.2.ext x0⟩
  go_wp2_with fail
  rw [← hW0]
  clear hW0
  have hcall : Calls Try.prog 39 #[.agg #[.slice A N c1]] W0 (RetP 28 F W0) := by
    have h := sFloorPoints_any A l c1 W0 (hp.ext x0) HN10.out
    rw [HN.out, HFV.out] at h
    exact h
  refine hcall.mono ?_
  rintro e w1 ⟨A2, c2, rfl, ox, x1⟩
  rw [HQ.out]
  have c1' : CS g B n c w1 := ⟨c0.1.ext x1, c0.2.ext x1⟩
  have pp := p0.ext x1
  have rF : RPts w1 A2 F := ox.r (Nat.le_refl _)
  have hs1 := x0.size
  have hs2 := x1.size
  clear hcall rF
  go_wp2_with fail
  refine (l01Below_big g B n c Q w1 c1'.1 c1'.2 hn hne hfl (by omega)).mono ?_
  rintro e w2 ⟨j, ⟨j0, j1⟩, rfl, hc2, o2⟩
  obtain ⟨k, rfl⟩ := Int.eq_ofNat_of_zero_le j0
  have hkQ : k < Q := by omega
  have P2 := pp.only o2 (by omega)
  have rF2 : RPts w2 A2 F := (ox.only o2 (by omega)).r o2.size
  obtain ⟨gA, gO, hgA⟩ := rF2.some_ (by rw [HQ.out]; omega)
  subst hgA
  obtain ⟨z1, z2, z3⟩ := rF2.cell (show k < F.length by rw [HQ.out]; exact hkQ)
  obtain ⟨X, hX⟩ : ∃ X, gx F k = X := ⟨_, rfl⟩
  obtain ⟨Y, hY⟩ : ∃ Y, gy F k = Y := ⟨_, rfl⟩
  rw [hX] at z2
  rw [hY] at z3
  have HXY := hide (And.intro hX hY)
  obtain ⟨q0, q2, q3, q4, q5⟩ := P2.cells
  have on : Only g w w2 := (Only.of_ext (x0.trans x1)).trans o2
  have HON := hide on
  have HC2 := hide hc2
  have HCB := hide hc.2
  have k1 : (k : Int) < (Q : Int) := by omega
  have hsz : w.heap.size ≤ w2.heap.size := on.size
  clear P2 rF2 hX hY on hc2 c1' o2 ox x0 x1 pp c0 hc hp hs1 hs2
  go_wp2
  refine bodyPost_ret (v := .agg #[.int .i64 X, .int .i64 Y]) (by simp [results, Try.results20, go_sem, *]) rfl ⟨X, Y, rfl, ?_, ?_, ?_⟩
  · rw [HF.out, ← HXY.out.1, ← HXY.out.2]
    exact g_mem (by rw [HQ.out]; exact hkQ)
  · exact ⟨(HC2.out.set_far (p := ⟨w.heap.size + 1, 0, none⟩) (by simp; omega) _).set_far (p := ⟨w.heap.size + 1, 1, none⟩) (by simp; omega) _, HCB.out.only ((HON.out.setNew (Nat.le_succ _) 0 _).setNew (Nat.le_succ _) 1 _) hne⟩
  · exact (HON.out.setNew (Nat.le_succ _) 0 _).setNew (Nat.le_succ _) 1 _

/-- a point of a room's floor -/
def FloorV (l : List (Int × Int)) (v : Value) (_ : World) : Prop := ∃ x y : Int, (x, y) ∈ floorL l ∧ v = .agg #[.int .i64 x, .int .i64 y]
theorem floorV_st (R : World → World → Prop) (l : List (Int × Int)) : StableT R (FloorV l) := fun _ _ _ h _ => h

/-- what a draw may do that also fills the box rb with S -/
structure DQ (g rb : Nat) (T : TypeId) (S : Value) (B : Option Addr) (n c : Nat) (w w' : World) : Prop where
  os : w'.os = w.os
  tape : w'.tape = w.tape
  output : w'.output = w.output
  size : w.heap.size ≤ w'.heap.size
  block : ∀ k, k < w.heap.size → k ≠ g → k ≠ rb → w'.heap[k]? = w.heap[k]?
  cur : Cur w g B n c → Cur w' g B n c
  one : OneC w rb T S → OneC w' rb T S
  any : (∃ v, OneC w rb T v) → ∃ v, OneC w' rb T v
theorem dq_pre (g rb : Nat) (T : TypeId) (S : Value) (B : Option Addr) (n c : Nat) : PreR (DQ g rb T S B n c) :=
  ⟨fun _ => ⟨rfl, rfl, rfl, Nat.le_refl _, fun _ _ _ _ => rfl, id, id, id⟩,
    fun h k => ⟨k.os.trans h.os, k.tape.trans h.tape, k.output.trans h.output, Nat.le_trans h.size k.size, fun q a b c => (k.block q (Nat.lt_of_lt_of_le a h.size) b c).trans (h.block q a b c), fun x => k.cur (h.cur x), fun x => k.one (h.one x), fun x => k.any (h.any x)⟩,
    fun _ => ⟨rfl, rfl, rfl, Nat.le_refl _, fun _ _ _ _ => rfl, id, id, id⟩⟩
section
variable {g rb : Nat} {T : TypeId} {S : Value} {B : Option Addr} {n c : Nat} {w w' : World}
theorem DQ.of_only (h : Only g w w') (hr : rb ≠ g) (hc : Cur w' g B n c) : DQ g rb T S B n c w w' := ⟨h.os, h.tape, h.output, h.size, fun k a b _ => h.block k a b, fun _ => hc, fun x => x.only h hr, fun ⟨v, x⟩ => ⟨v, x.only h hr⟩⟩
theorem DQ.store (hr : rb ≠ g) (_ : ∃ v, OneC w rb T v) : DQ g rb T S B n c w (w.setCell ⟨rb, 0, none⟩ S) := ⟨rfl, rfl, rfl, by rw [size_setCell]; exact Nat.le_refl _, fun k _ _ hk => Below.heap_setCell _ _ _ _ hk, fun x => x.set_far (p := ⟨rb, 0, none⟩) hr _, fun x => x.set _, fun ⟨_, x⟩ => ⟨_, x.set _⟩⟩
theorem dq_st : StableT (DQ g rb T S B n c) (fun _ W => OneC W rb T S) := fun _ _ _ h hx => hx.one h
theorem OwnS.dq {lo hi : Nat} {U : TypeId} {A : Option Addr} {l : List (Int × Int)} (h : OwnS w lo hi U A l) (ho : DQ g rb T S B n c w w') (hg : g < lo) (hr : rb < lo) : OwnS w' lo hi U A l := fun hl =>
  let ⟨k, e, h1, h2, h3⟩ := h hl
  ⟨k, e, h1, h2, h3.same (ho.block k h3.lt (by omega) (by omega))⟩
theorem OneC.dq {k : Nat} {U : TypeId} {v : Value} (h : OneC w k U v) (ho : DQ g rb T S B n c w w') (hg : k ≠ g) (hr : k ≠ rb) : OneC w' k U v := (ho.block k (heap_lt h) hg hr).trans h
theorem PtC.dq {k : Nat} {x y : Int} (h : PtC w k x y) (ho : DQ g rb T S B n c w w') (hg : k ≠ g) (hr : k ≠ rb) : PtC w' k x y := (ho.block k (heap_lt h) hg hr).trans h
theorem RB.dq (h : RB w B n) (ho : DQ g rb T S B n c w w') (hg : 0 < n → ∀ b off, B = some ⟨b, off, none⟩ → b ≠ g ∧ b ≠ rb) : RB w' B n := fun hn =>
  let ⟨b, off, e, h1, h2⟩ := h hn
  ⟨b, off, e, Nat.lt_of_lt_of_le h1 ho.size, fun k hk => let ⟨x, h3, h4⟩ := h2 k hk; ⟨x, (World.cell?_of_block (w := w) (a := ⟨b, off + k, none⟩) (ho.block b h1 (hg hn b off e).1 (hg hn b off e).2)).trans h3, h4⟩⟩
end

set_option maxRecDepth 100000 in
set_option maxHeartbeats 3200000 in
theorem DrawSight_any (B : Option Addr) (n c : Nat) (w : World) (hb : RB w B n) (hn : n ≤ 1048576) (hfloor : ∀ L, Drawn L → 0 < (floorL L).length) :
    Calls Try.prog 6 #[.slice B n c] w fun e w' => ∃ (L : List (Int × Int)) (A : Option Addr) (c' : Nat) (x y x' y' : Int), e = .returned (.tuple #[.agg #[.slice A L.length c'], .agg #[.int .i64 x, .int .i64 y], .agg #[.int .i64 x', .int .i64 y']]) ∧ L.length ≤ c' ∧ Drawn L ∧ ((x, y) ∈ floorL L ∧ (x', y') ∈ floorL L) ∧ OwnS w' w.heap.size w'.heap.size 28 A L ∧ Ext w w' := by
  obtain ⟨W0, hW0⟩ : ∃ W0, W0 = ((w.alloc (.cells #[.slice none 0 0] 26)).alloc (.cells #[.int .i64 0, .int .i64 0] 28)).alloc (.cells #[.int .i64 0, .int .i64 0] 28) := ⟨_, rfl⟩
  have x0 : Ext w W0 := by rw [hW0]; (repeat (first | exact Ext.refl _ | assumption | apply Ext.alloc | apply Ext.drew | apply Ext.drewN | (refine Ext.trans ?_ (by assumption))))
  have r0 : OneC W0 w.heap.size 26 (.slice none 0 0) := by rw [hW0]; exact (OneC.new w 26 (.slice none 0 0)).ext (by (repeat (first | exact Ext.refl _ | assumption | apply Ext.alloc | apply Ext.drew | apply Ext.drewN | (refine Ext.trans ?_ (by assumption)))))
  have z0 : W0.heap.size = w.heap.size + 3 := by rw [hW0]; simp
  have e1 : (w.alloc (.cells #[.slice none 0 0] 26)).heap.size = w.heap.size + 1 := by simp
  have e2 : ((w.alloc (.cells #[.slice none 0 0] 26)).alloc (.cells #[.int .i64 0, .int .i64 0] 28)).heap.size = w.heap.size + 2 := by simp
  have p0 : PtC W0 (w.heap.size + 1) 0 0 := by
    have h := heap_alloc_new (w.alloc (.cells #[.slice none 0 0] 26)) (.cells #[.int .i64 0, .int .i64 0] 28)
    rw [e1] at h
    rw [hW0]; exact PtC.ext (show PtC _ _ 0 0 from h) (by (repeat (first | exact Ext.refl _ | assumption | apply Ext.alloc | apply Ext.drew | apply Ext.drewN | (refine Ext.trans ?_ (by assumption)))))
  have o0 : PtC W0 (w.heap.size + 2) 0 0 := by
    have h := heap_alloc_new ((w.alloc (.cells #[.slice none 0 0] 26)).alloc (.cells #[.int .i64 0, .int .i64 0] 28)) (.cells #[.int .i64 0, .int .i64 0] 28)
    rw [e2] at h
    rw [hW0]; exact h
  clear e1 e2
  go_enter Try.func6, Try.ntmps6
  go_wp2_with fail
  rw [← hW0]
  clear hW0
  refine (l01New_any B n c _ (hb.ext x0) hn).mono ?_
  rintro e w1 ⟨rfl, hc1, x1⟩
  have hz1 := x1.size
  obtain ⟨g, hg⟩ : ∃ g, g = W0.heap.size := ⟨_, rfl⟩
  rw [← hg] at hc1
  have hgg : g = w.heap.size + 3 := by rw [hg, z0]
  have hlow : 0 < n → ∀ b off, B = some ⟨b, off, none⟩ → b ≠ g := fun h0 b off e => by
    obtain ⟨b', off', e', h1, _⟩ := hb h0
    rw [e] at e'
    injection e' with e'
    injection e' with e' _
    omega
  have hlow2 : 0 < n → ∀ b off, B = some ⟨b, off, none⟩ → b ≠ g ∧ b ≠ w.heap.size := fun h0 b off e => by
    obtain ⟨b', off', e', h1, _⟩ := hb h0
    rw [e] at e'
    injection e' with e'
    injection e' with e' _
    omega
  rw [← hg]
  have hcl : g < w1.heap.size := by obtain ⟨_, _, h1, _⟩ := hc1; exact heap_lt h1
  have hgs : w.heap.size + 3 ≤ g := by omega
  clear hg hgg hz1
  go_wp2_with fail
  refine (l04Room_any g B n c w1 ⟨hc1, (hb.ext x0).ext x1⟩ hn hlow hcl).mono ?_
  rintro e w2 ⟨L, A, c', rfl, hcap, hD, hO, hcs, on⟩
  have hr := hD.facts.1
  have hfl := hfloor L hD
  have r2 := (r0.ext x1).only on (by omega)
  have p2 := (p0.ext x1).only on (by omega)
  have o2 := (o0.ext x1).only on (by omega)
  have s1 := (x0.trans x1).size
  have s2 := on.size
  have bl : Below w.heap.size w w2 := Below.trans (x0.trans x1).below (on.below (by omega) s1)
  obtain ⟨W3, hW3⟩ : ∃ W3, W3 = w2.alloc (.cells #[.slice A L.length c'] 26) := ⟨_, rfl⟩
  obtain ⟨b6, hb6⟩ : ∃ b, b = w2.heap.size := ⟨_, rfl⟩
  have x3 : Ext w2 W3 := by rw [hW3]; (repeat (first | exact Ext.refl _ | assumption | apply Ext.alloc | apply Ext.drew | apply Ext.drewN | (refine Ext.trans ?_ (by assumption))))
  have n6 : OneC W3 b6 26 (.slice A L.length c') := by rw [hW3, hb6]; exact OneC.new _ _ _
  have c3 : CS g B n c W3 := ⟨hcs.1.ext x3, hcs.2.ext x3⟩
  have hO3 : OwnS W3 w1.heap.size W3.heap.size 28 A L := (hO.ext x3).more (Nat.le_refl _) x3.size
  have hb6g : b6 ≠ g := by omega
  obtain ⟨N, hN⟩ : ∃ N, L.length = N := ⟨_, rfl⟩
  have HN := hide hN
  rw [hN] at hcap n6 hW3 ⊢
  have r3 := r2.ext x3
  have p3 := p2.ext x3
  have o3 := o2.ext x3
  have on3 : Only g w1 W3 := on.trans (Only.of_ext x3)
  clear hb r0 p0 o0 r2 p2 o2 hcs hO bl hN
  obtain ⟨f1, f2, f3⟩ := n6.cell
  go_wp2_with fail
  rw [← hW3, ← hb6]
  refine (l08Point_any g B n c A L c' N W3 c3 hn hlow c3.1.lt HN.out (hO3.r (Nat.le_refl _)) hr hfl).mono ?_
  rintro e w4 ⟨x, y, rfl, hxy, c4, o4⟩
  have s4 := o4.size
  obtain ⟨W5, hW5⟩ : ∃ W5, W5 = w4.alloc (.cells #[.int .i64 x, .int .i64 y] 28) := ⟨_, rfl⟩
  obtain ⟨b7, hb7⟩ : ∃ b, b = w4.heap.size := ⟨_, rfl⟩
  have x5 : Ext w4 W5 := by rw [hW5]; (repeat (first | exact Ext.refl _ | assumption | apply Ext.alloc | apply Ext.drew | apply Ext.drewN | (refine Ext.trans ?_ (by assumption))))
  have q7 : PtC W5 b7 x y := by rw [hW5, hb7]; exact heap_alloc_new w4 _
  have c5 : CS g B n c W5 := ⟨c4.1.ext x5, c4.2.ext x5⟩
  have n5 := (n6.only o4 hb6g).ext x5
  have on5 : Only g w1 W5 := on3.trans (o4.trans (Only.of_ext x5))
  have on35 : Only g W3 W5 := o4.trans (Only.of_ext x5)
  have r5 := r3.only on35 (by omega)
  have p5 := p3.only on35 (by omega)
  have o5 := o3.only on35 (by omega)
  have hO5 : OwnS W5 w1.heap.size W5.heap.size 28 A L := ((hO3.only on35 hcl).more (Nat.le_refl _) on35.size)
  have hb7g : b7 ≠ g := by have := c4.1.lt; omega
  have bl5 : Below w.heap.size w W5 := Below.trans (x0.trans x1).below (on5.below (by omega) s1)
  have d1 : w.heap.size ≠ g := by omega
  have d2 : b6 ≠ w.heap.size := by have := on.size; omega
  have d3 : b7 ≠ w.heap.size := by have := c4.1.lt; omega
  obtain ⟨rb, hrb⟩ : ∃ rb, rb = w.heap.size := ⟨_, rfl⟩
  rw [← hrb] at r5 d1 d2 d3 hlow2
  have hrg : rb < g := by omega
  have HX := hide (show ∀ w', DQ g rb 26 (.slice A N c') B n c W5 w' → (Cur w' g B n c ∧ RB w' B n) ∧ (w'.cell? ⟨b6, 0, none⟩ = some (.slice A N c') ∧ b6 < w'.heap.size) ∧ (w'.cell? ⟨b7, 0, none⟩ = some (.int .i64 x) ∧ w'.cell? ⟨b7, 1, none⟩ = some (.int .i64 y) ∧ b7 < w'.heap.size) ∧ ∃ v, OneC w' rb 26 v from fun w' hx => ⟨⟨hx.cur c5.1, c5.2.dq hx hlow2⟩, ⟨(n5.dq hx hb6g d2).cell.2.1, (n5.dq hx hb6g d2).cell.1⟩, ⟨(q7.dq hx hb7g d3).cells.2.1, (q7.dq hx hb7g d3).cells.2.2.1, (q7.dq hx hb7g d3).cells.1⟩, hx.any ⟨_, r5⟩⟩)
  have HRP := hide (show ∀ w', DQ g rb 26 (.slice A N c') B n c W5 w' → RPts w' A L from fun w' hx => (hO5.dq hx hcl (by omega)).r hx.size)
  have HPR := hide (dq_pre g rb 26 (.slice A N c') B n c)
  have HRB := hide hrb
  have HR := hide r5
  have HP := hide p5
  have HO := hide o5
  have HOW := hide hO5
  have HBL := hide bl5
  have HS := hide (And.intro s1 hcl)
  have HW5 := hide hW5
  have HB7 := hide hb7
  have HRM := hide hr
  have HFL := hide hfl
  have h6 : b6 < W5.heap.size := n5.cell.1
  have h7 : b7 < W5.heap.size := q7.cells.1
  clear x0 z0 hcl s1 s2 s4 r3 p3 o3 r5 p5 o5 hO3 hO5 on on3 on5 on35 bl5 c3 c4 n6 n5 q7 x1 x3 x5 o4 hW5 hb7 hW3 hb6 hr hfl f1 f2 f3 hc1 hrb
  go_wp2_with fail
  rw [← HW5.out, ← HB7.out, ← HRB.out]
  refine wp_flow_tailT HPR.out 6 (by kernel_rfl) (by kernel_rfl) (by kernel_rfl) (by kernel_rfl) (fun u => ⟨#[_, _, _, _, _, _, _, _, _, _, _, _, _, _, _, u 0, u 1, u 2, u 3, u 4], _⟩) (fun i => List.getD [_, _, _, _, _, undef] i undef) [is ?v1_0, is ?v1_1, is ?v1_2, is ?v1_3, (FloorV L), (fun _ W => OneC W rb 26 (.slice A N c'))] (fun w' => (Cur w' g B n c ∧ RB w' B n) ∧ (w'.cell? ⟨b6, 0, none⟩ = some (.slice A N c') ∧ b6 < w'.heap.size) ∧ (w'.cell? ⟨b7, 0, none⟩ = some (.int .i64 x) ∧ w'.cell? ⟨b7, 1, none⟩ = some (.int .i64 y) ∧ b7 < w'.heap.size) ∧ ∃ v, OneC w' rb 26 v) _ rfl ?hC1 ?hs1 ?hV1 ?fin1
  case hC1 => exact fun w' hx => HX.out w' hx
  case hs1 =>
    repeat' (first
      | exact TSteps.nil
      | refine TSteps.cons ?_ ?_
      | ((first
          | refine TStep.plain rfl ?_)
         intro u w hW hC hd K hK
         (try simp [vOf, is, Region.binds] at hd)
         simp only [upd, Nat.reduceEqDiff, if_true, if_false] at hK
         (try simp only [hd] at hK)
         (try (have hC0 := hC; obtain ⟨_, _, _, vq, eq⟩ := hC0; obtain ⟨i1, i2, i3⟩ := (show OneC w rb 26 vq from eq).cell))
         go_simp
         (first
           | (refine hK _ _ ?_ ?_; (first | exact rfl); (exact HPR.out.refl _))
           | (go_at_call 20; refine (l08Point_any g B n c A L c' N _ hC.1 hn hlow hC.1.1.lt HN.out (HRP.out _ hW) HRM.out HFL.out).mono ?_; rintro e w1 ⟨x3, y3, rfl, hb3, hc1, o1⟩; (try go_simp); refine hK _ _ ?_ ?_; exact ⟨x3, y3, hb3, rfl⟩; exact DQ.of_only o1 d1 hc1.1)
           | (refine hK undef _ ?_ ?_; exact eq.set _; exact DQ.store d1 ⟨_, eq⟩))))
  case hV1 => (simp only [List.forall_mem_cons]; simp [stableT_is, floorV_st _ _, dq_st])
  case fin1 =>
    intro u w2 hW2 hC2 hd
    simp only [AllV, is] at hd
    have hs4 := hd.2.2.2.2.1
    have hs5 := hd.2.2.2.2.2.1
    simp only [List.drop_succ_cons, List.drop_zero]
    simp only [hd]
    clear hd
    obtain ⟨x', y', hxy', hu4⟩ := hs4
    simp only [hu4]
    have R := hs5
    have Pq := HP.out.dq hW2 (show w.heap.size + 1 ≠ g by omega) (show w.heap.size + 1 ≠ rb by have := HRB.out; omega)
    have Pr := HO.out.dq hW2 (show w.heap.size + 2 ≠ g by omega) (show w.heap.size + 2 ≠ rb by have := HRB.out; omega)
    have hO2 : OwnS w2 w1.heap.size w2.heap.size 28 A L := (HOW.out.dq hW2 HS.out.2 (by have := HS.out.2; omega)).more (Nat.le_refl _) hW2.size
    have hBl : Below w.heap.size w w2 := Below.trans HBL.out ⟨hW2.os, hW2.tape, hW2.output, hW2.size, fun k hk => hW2.block k (by have := HBL.out.size; omega) (by omega) (by have := HRB.out; omega)⟩
    rw [HRB.out] at R
    obtain ⟨y1, y2, y3⟩ := (show OneC w2 w.heap.size 26 (.slice A N c') from R).cell
    obtain ⟨q1, q2, q3, q4, q5⟩ := Pq.cells
    obtain ⟨t1, t2, t3, t4, t5⟩ := Pr.cells
    have HRB2 := hide HRB.out
    rw [HRB.out]
    have HO2 := hide hO2
    have HBB := hide hBl
    have HS2 := hide (show w.heap.size + 3 ≤ w1.heap.size by have := HS.out.2; omega)
    have hne1 : ¬ w.heap.size = w.heap.size + 1 := by omega
    have hne2 : ¬ w.heap.size + 1 = w.heap.size := by omega
    have hne3 : ¬ w.heap.size = w.heap.size + 2 := by omega
    have hne4 : ¬ w.heap.size + 2 = w.heap.size := by omega
    have hne5 : ¬ w.heap.size + 1 = w.heap.size + 2 := by omega
    have hne6 : ¬ w.heap.size + 2 = w.heap.size + 1 := by omega
    clear hO2 hBl R Pq Pr HOW HBL HS HR HP HO HX HRP HPR hC2 hW2 hs5 hrg d1 d2 d3 hlow2
    go_wp2
    refine bodyPost_ret (v := .tuple #[.agg #[.slice A N c'], .agg #[.int .i64 x, .int .i64 y], .agg #[.int .i64 x', .int .i64 y']]) (by simp [results, Try.results6, go_sem, *]) rfl ?_
    refine ⟨L, A, c', x, y, x', y', by rw [HN.out], by rw [HN.out]; exact hcap, hD, ⟨hxy, hxy'⟩, ?_, ?_⟩
    · intro hl
      obtain ⟨k, e, h1, h2, h3⟩ := HO2.out hl
      have hk := HS2.out
      exact ⟨k, e, by omega, by rw [size_setCell, size_setCell, size_setCell, size_setCell]; exact h2, (((h3.far (p := ⟨w.heap.size + 1, 0, none⟩) (by simp; omega) _).far (p := ⟨w.heap.size + 1, 1, none⟩) (by simp; omega) _).far (p := ⟨w.heap.size + 2, 0, none⟩) (by simp; omega) _).far (p := ⟨w.heap.size + 2, 1, none⟩) (by simp; omega) _⟩
    · exact ((((show Ext w w2 from HBB.out).setCell (by simp <;> omega) _).setCell (by simp <;> omega) _).setCell (by simp <;> omega) _).setCell (by simp <;> omega) _

end Go.Proofs.Ytjccilpjaaiicaa
