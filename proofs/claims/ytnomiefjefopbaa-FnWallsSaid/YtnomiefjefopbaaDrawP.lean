/-
  Contract: the draw of three points.
-/
import Derived.Test.YtnomiefjefopbaaDraw2
import Derived.Test.YtnomiefjefopbaaFlowT
namespace Go.Proofs.Ytnomiefjefopbaa
open Go.RowKit

/-- a block of two numbers, whole -/
def Duo (w : World) (b : Nat) (T : TypeId) (x y : Int) : Prop := w.heap[b]? = some (.cells #[.int .i64 x, .int .i64 y] T (0, 0))
theorem Duo.set {w : World} {b : Nat} {T : TypeId} {x y : Int} (h : Duo w b T x y) (x' y' : Int) : Duo ((w.setCell ⟨b, 0, none⟩ (.int .i64 x')).setCell ⟨b, 1, none⟩ (.int .i64 y')) b T x' y' := by
  unfold Duo at *
  simp [World.setCell, Array.getElem?_modify, h]
theorem Duo.cells {w : World} {b : Nat} {T : TypeId} {x y : Int} (h : Duo w b T x y) : b < w.heap.size ∧ w.cell? ⟨b, 0, none⟩ = some (.int .i64 x) ∧ w.cell? ⟨b, 1, none⟩ = some (.int .i64 y) ∧ w.frozen? ⟨b, 0, none⟩ = false ∧ w.frozen? ⟨b, 1, none⟩ = false := by
  refine ⟨hp_lt h, ?_, ?_, ?_, ?_⟩ <;> (unfold Duo at h; simp [World.cell?, World.frozen?, h])
theorem Duo.new (w : World) (T : TypeId) (x y : Int) : Duo (w.alloc (.cells #[.int .i64 x, .int .i64 y] T)) w.heap.size T x y := heap_alloc_new w _
theorem Duo.ext {w w' : World} {b : Nat} {T : TypeId} {x y : Int} (h : Duo w b T x y) (hx : Ext w w') : Duo w' b T x y := (hx.below.block b (hp_lt h)).trans h
theorem Duo.only {w w' : World} {b g : Nat} {T : TypeId} {x y : Int} (h : Duo w b T x y) (hx : Only g w w') (hb : b ≠ g) : Duo w' b T x y := (hx.block b (hp_lt h) hb).trans h

/-- what may turn while three points are drawn: the cursor and the three results -/
structure DrR (g p2 : Nat) (C S2 S3 S4 : World → Prop) (w w' : World) : Prop where
  os : w'.os = w.os
  tape : w'.tape = w.tape
  output : w'.output = w.output
  size : w.heap.size ≤ w'.heap.size
  block : ∀ k, k < w.heap.size → k ≠ g → ¬ (p2 ≤ k ∧ k < p2 + 3) → w'.heap[k]? = w.heap[k]?
  c : C w → C w'
  s2 : S2 w → S2 w'
  s3 : S3 w → S3 w'
  s4 : S4 w → S4 w'
theorem drR_pre (g p2 : Nat) (C S2 S3 S4 : World → Prop) (hd : ∀ w : World, (C w → C w.drew) ∧ (S2 w → S2 w.drew) ∧ (S3 w → S3 w.drew) ∧ (S4 w → S4 w.drew)) : PreR (DrR g p2 C S2 S3 S4) where
  refl _ := ⟨rfl, rfl, rfl, Nat.le_refl _, fun _ _ _ _ => rfl, id, id, id, id⟩
  trans h k := ⟨k.os.trans h.os, k.tape.trans h.tape, k.output.trans h.output, Nat.le_trans h.size k.size, fun q a b c => (k.block q (Nat.lt_of_lt_of_le a h.size) b c).trans (h.block q a b c), fun x => k.c (h.c x), fun x => k.s2 (h.s2 x), fun x => k.s3 (h.s3 x), fun x => k.s4 (h.s4 x)⟩
  drew w := ⟨rfl, rfl, rfl, Nat.le_refl _, fun _ _ _ _ => rfl, (hd w).1, (hd w).2.1, (hd w).2.2.1, (hd w).2.2.2⟩

theorem drR_st (g p2 : Nat) (C S2 S3 S4 : World → Prop) : StableT (DrR g p2 C S2 S3 S4) (fun _ w => S2 w) ∧ StableT (DrR g p2 C S2 S3 S4) (fun _ w => S3 w) ∧ StableT (DrR g p2 C S2 S3 S4) (fun _ w => S4 w) :=
  ⟨fun _ _ _ h hx => hx.s2 h, fun _ _ _ h hx => hx.s3 h, fun _ _ _ h hx => hx.s4 h⟩

/-- what the draw of the points holds to -/
def DrC (g p2 p6 p7 : Nat) (B : Option Addr) (n c : Nat) (x1 y1 x2 y2 : Int) (w : World) : Prop :=
  Cur w g B n c ∧ RB w B n ∧ Duo w p6 25 x1 y1 ∧ Duo w p7 25 x2 y2 ∧ (∃ x y, Duo w p2 25 x y) ∧ (∃ x y, Duo w (p2 + 1) 25 x y) ∧ (∃ x y, Duo w (p2 + 2) 25 x y)
/-- a drawn point -/
def IsDr (v : Value) (_ : World) : Prop := ∃ x y : Int, ((-2 ≤ x ∧ x ≤ 6) ∧ (-2 ≤ y ∧ y ≤ 6)) ∧ v = .agg #[.int .i64 x, .int .i64 y]
theorem isDr_st (R : World → World → Prop) : StableT R IsDr := fun _ _ _ h _ => h
def DrS (p : Nat) (w : World) : Prop := ∃ x y : Int, ((-2 ≤ x ∧ x ≤ 6) ∧ (-2 ≤ y ∧ y ≤ 6)) ∧ Duo w p 25 x y

theorem Duo.drew {w : World} {b : Nat} {T : TypeId} {x y : Int} (h : Duo w b T x y) : Duo w.drew b T x y := h
theorem Cur.ext {w w' : World} {g : Nat} {B : Option Addr} {n c : Nat} (h : Cur w g B n c) (hx : Ext w w') : Cur w' g B n c := by
  obtain ⟨i, hh, h1, h2⟩ := h
  exact ⟨i, hh, (hx.below.block g (hp_lt h1)).trans h1, h2⟩
theorem rb_ne {w : World} {B : Option Addr} {n g : Nat} (h : RB w B n) (hg : w.heap.size ≤ g) : 0 < n → ∀ b off, B = some ⟨b, off, none⟩ → b ≠ g := fun hn b off e => by
  obtain ⟨b', off', e', h1, _⟩ := h hn
  rw [e'] at e
  injection e with e
  injection e with e1 _ _
  omega

/-- the call of a point's draw, as a step -/
theorem drR_call {g p2 p6 p7 : Nat} {B : Option Addr} {n c : Nat} {x1 y1 x2 y2 : Int} {w w' : World} (hne : 0 < n → ∀ b off, B = some ⟨b, off, none⟩ → b ≠ g) (h : DrC g p2 p6 p7 B n c x1 y1 x2 y2 w) (hc : Cur w' g B n c) (ho : Only g w w') (h6 : p6 ≠ g) (h7 : p7 ≠ g) (h2 : p2 + 2 < g) :
    DrR g p2 (DrC g p2 p6 p7 B n c x1 y1 x2 y2) (fun w => Duo w p2 25 x1 y1) (fun w => Duo w (p2 + 1) 25 x2 y2) (DrS (p2 + 2)) w w' := by
  obtain ⟨_, hb, d6, d7, ⟨a2, b2, d2⟩, ⟨a3, b3, d3⟩, ⟨a4, b4, d4⟩⟩ := h
  refine ⟨ho.os, ho.tape, ho.output, ho.size, fun k hk hg _ => ho.block k hk hg, fun _ => ⟨hc, hb.only ho hne, d6.only ho h6, d7.only ho h7, ⟨a2, b2, d2.only ho (by omega)⟩, ⟨a3, b3, d3.only ho (by omega)⟩, ⟨a4, b4, d4.only ho (by omega)⟩⟩, fun h => h.only ho (by omega), fun h => h.only ho (by omega), fun ⟨x, y, hb, h⟩ => ⟨x, y, hb, h.only ho (by omega)⟩⟩
theorem Duo.far {w : World} {b p : Nat} {T : TypeId} {x y a b' : Int} (h : Duo w b T x y) (hne : b ≠ p) : Duo ((w.setCell ⟨p, 0, none⟩ (.int .i64 a)).setCell ⟨p, 1, none⟩ (.int .i64 b')) b T x y := ((Below.heap_setCell _ _ _ _ (by simpa using hne)).trans (Below.heap_setCell _ _ _ _ (by simpa using hne))).trans h
theorem Cur.far {w : World} {g p : Nat} {B : Option Addr} {n c : Nat} {a b' : Int} (h : Cur w g B n c) (hne : g ≠ p) : Cur ((w.setCell ⟨p, 0, none⟩ (.int .i64 a)).setCell ⟨p, 1, none⟩ (.int .i64 b')) g B n c := by
  obtain ⟨i, hh, h1, h2⟩ := h
  exact ⟨i, hh, ((Below.heap_setCell _ _ _ _ (by simpa using hne)).trans (Below.heap_setCell _ _ _ _ (by simpa using hne))).trans h1, h2⟩
theorem RB.far {w : World} {B : Option Addr} {n p : Nat} {a b' : Int} (h : RB w B n) (hne : 0 < n → ∀ b off, B = some ⟨b, off, none⟩ → b ≠ p) : RB ((w.setCell ⟨p, 0, none⟩ (.int .i64 a)).setCell ⟨p, 1, none⟩ (.int .i64 b')) B n := fun hn => by
  obtain ⟨b, off, e, h1, h2⟩ := h hn
  refine ⟨b, off, e, by simpa [size_setCell] using h1, fun k hk => ?_⟩
  obtain ⟨x, h3, h4⟩ := h2 k hk
  have hnb := hne hn b off e
  refine ⟨x, ?_, h4⟩
  rw [← h3]
  exact World.cell?_of_block (w := w) (a := ⟨b, off + k, none⟩) ((Below.heap_setCell _ _ _ _ (by simpa using hnb)).trans (Below.heap_setCell _ _ _ _ (by simpa using hnb)))
/-- a store of a whole point into one of the results, as a step -/
theorem drR_store {g p2 p6 p7 p : Nat} {B : Option Addr} {n c : Nat} {x1 y1 x2 y2 a b' : Int} {w : World} (hp : p2 ≤ p ∧ p < p2 + 3) (hne : 0 < n → ∀ b off, B = some ⟨b, off, none⟩ → b < p2) (h : DrC g p2 p6 p7 B n c x1 y1 x2 y2 w) (h6 : p2 + 2 < p6) (h7 : p2 + 2 < p7) (h2 : p2 + 2 < g)
    (s2 : p = p2 → a = x1 ∧ b' = y1) (s3 : p = p2 + 1 → a = x2 ∧ b' = y2) (s4 : p = p2 + 2 → (-2 ≤ a ∧ a ≤ 6) ∧ (-2 ≤ b' ∧ b' ≤ 6)) :
    DrR g p2 (DrC g p2 p6 p7 B n c x1 y1 x2 y2) (fun w => Duo w p2 25 x1 y1) (fun w => Duo w (p2 + 1) 25 x2 y2) (DrS (p2 + 2)) w ((w.setCell ⟨p, 0, none⟩ (.int .i64 a)).setCell ⟨p, 1, none⟩ (.int .i64 b')) := by
  obtain ⟨hc, hb, d6, d7, ⟨a2, b2, d2⟩, ⟨a3, b3, d3⟩, ⟨a4, b4, d4⟩⟩ := h
  have any : ∀ q x y, Duo w q 25 x y → ∃ x y, Duo ((w.setCell ⟨p, 0, none⟩ (.int .i64 a)).setCell ⟨p, 1, none⟩ (.int .i64 b')) q 25 x y := fun q x y hq => by
    by_cases e : q = p
    · subst e; exact ⟨_, _, hq.set _ _⟩
    · exact ⟨_, _, hq.far e⟩
  refine ⟨rfl, rfl, rfl, by simp [size_setCell], fun k hk _ hr => (Below.heap_setCell _ _ _ _ (by simp; omega)).trans (Below.heap_setCell _ _ _ _ (by simp; omega)), fun _ => ⟨hc.far (by omega), hb.far (fun hn b off e => by have := hne hn b off e; omega), d6.far (by omega), d7.far (by omega), any _ _ _ d2, any _ _ _ d3, any _ _ _ d4⟩, fun h => ?_, fun h => ?_, fun ⟨x, y, hbd, h⟩ => ?_⟩
  · by_cases e : p = p2
    · obtain ⟨rfl, rfl⟩ := s2 e; subst e; exact Duo.set h _ _
    · exact Duo.far h (fun e' => e e'.symm)
  · by_cases e : p = p2 + 1
    · obtain ⟨rfl, rfl⟩ := s3 e; subst e; exact Duo.set h _ _
    · exact Duo.far h (fun e' => e e'.symm)
  · by_cases e : p = p2 + 2
    · have hs := s4 e; subst e; exact ⟨_, _, hs, h.set _ _⟩
    · exact ⟨x, y, hbd, h.far (fun e' => e e'.symm)⟩

theorem rb_low {w : World} {B : Option Addr} {n : Nat} (h : RB w B n) : 0 < n → ∀ b off, B = some ⟨b, off, none⟩ → b < w.heap.size := fun hn b off e => by
  obtain ⟨b', off', e', h1, _⟩ := h hn
  rw [e'] at e
  injection e with e
  injection e with e1 _ _
  omega
theorem drC_drew (g p2 p6 p7 : Nat) (B : Option Addr) (n c : Nat) (x1 y1 x2 y2 : Int) (w : World) : (DrC g p2 p6 p7 B n c x1 y1 x2 y2 w → DrC g p2 p6 p7 B n c x1 y1 x2 y2 w.drew) ∧ (Duo w p2 25 x1 y1 → Duo w.drew p2 25 x1 y1) ∧ (Duo w (p2 + 1) 25 x2 y2 → Duo w.drew (p2 + 1) 25 x2 y2) ∧ (DrS (p2 + 2) w → DrS (p2 + 2) w.drew) := ⟨id, id, id, id⟩

set_option maxRecDepth 100000 in
set_option maxHeartbeats 3200000 in
theorem DrawPoints_any (B : Option Addr) (n c : Nat) (w : World) (hb : RB w B n) (hn : n ≤ 1048576) :
    Calls Try.prog 6 #[.slice B n c] w fun e w' => ∃ x1 y1 x2 y2 x3 y3 : Int, ((-2 ≤ x1 ∧ x1 ≤ 6) ∧ (-2 ≤ y1 ∧ y1 ≤ 6)) ∧ ((-2 ≤ x2 ∧ x2 ≤ 6) ∧ (-2 ≤ y2 ∧ y2 ≤ 6)) ∧ ((-2 ≤ x3 ∧ x3 ≤ 6) ∧ (-2 ≤ y3 ∧ y3 ≤ 6)) ∧ e = .returned (.tuple #[.agg #[.int .i64 x1, .int .i64 y1], .agg #[.int .i64 x2, .int .i64 y2], .agg #[.int .i64 x3, .int .i64 y3]]) ∧ Below w.heap.size w w' := by
  have hlow := rb_low hb
  go_enter Try.func6, Try.ntmps6
  go_wp2_with fail
  obtain ⟨W, hW⟩ : ∃ W, W = ((w.alloc (.cells #[.int .i64 0, .int .i64 0] 25)).alloc (.cells #[.int .i64 0, .int .i64 0] 25)).alloc (.cells #[.int .i64 0, .int .i64 0] 25) := ⟨_, rfl⟩
  have hsW : W.heap.size = w.heap.size + 3 := by rw [hW]; simp
  have xW : Ext w W := by rw [hW]; (repeat (first | exact Ext.refl _ | assumption | apply Ext.alloc | apply Ext.drew | apply Ext.drewN | (refine Ext.trans ?_ (by assumption))))
  have d2 : Duo W w.heap.size 25 0 0 := by rw [hW]; exact (Duo.new w _ _ _).ext (by (repeat (first | exact Ext.refl _ | assumption | apply Ext.alloc | apply Ext.drew | apply Ext.drewN | (refine Ext.trans ?_ (by assumption)))))
  have d3 : Duo W (w.heap.size + 1) 25 0 0 := by
    have h := Duo.new (w.alloc (.cells #[.int .i64 0, .int .i64 0] 25)) 25 0 0
    have e : (w.alloc (.cells #[.int .i64 0, .int .i64 0] 25)).heap.size = w.heap.size + 1 := by simp
    rw [e] at h
    rw [hW]; exact h.ext (by (repeat (first | exact Ext.refl _ | assumption | apply Ext.alloc | apply Ext.drew | apply Ext.drewN | (refine Ext.trans ?_ (by assumption)))))
  have d4 : Duo W (w.heap.size + 2) 25 0 0 := by
    have h := Duo.new ((w.alloc (.cells #[.int .i64 0, .int .i64 0] 25)).alloc (.cells #[.int .i64 0, .int .i64 0] 25)) 25 0 0
    have e : ((w.alloc (.cells #[.int .i64 0, .int .i64 0] 25)).alloc (.cells #[.int .i64 0, .int .i64 0] 25)).heap.size = w.heap.size + 2 := by simp
    rw [e] at h
    rw [hW]; exact h
  rw [← hW]
  clear hW
  have hne := rb_ne hb (show w.heap.size ≤ W.heap.size by omega)
  refine (l01New_any B n c W (hb.ext xW) hn).mono ?_
  rintro e w1 ⟨rfl, hc1, x1⟩
  obtain ⟨g, hg⟩ : ∃ g, g = W.heap.size := ⟨_, rfl⟩
  rw [← hg] at hc1 hne ⊢
  have hg1 : W.heap.size ≤ g := by omega
  have hg2 : g ≤ W.heap.size := by omega
  clear hg
  have hlt1 := hc1.lt
  have hb1 := (hb.ext xW).ext x1
  go_wp2_with fail
  refine (l02Point_any g B n c _ hc1 hb1 hn hne hlt1).mono ?_
  rintro e w2 ⟨xa, ya, hba, rfl, hc2, o2⟩
  have hb2 := hb1.only o2 hne
  have hs2 := o2.size
  obtain ⟨W2, hW2⟩ : ∃ W2, W2 = w2.alloc (.cells #[.int .i64 xa, .int .i64 ya] 25) := ⟨_, rfl⟩
  have xW2 : Ext w2 W2 := by rw [hW2]; (repeat (first | exact Ext.refl _ | assumption | apply Ext.alloc | apply Ext.drew | apply Ext.drewN | (refine Ext.trans ?_ (by assumption))))
  have d6 : Duo W2 w2.heap.size 25 xa ya := by rw [hW2]; exact Duo.new _ _ _ _
  have hsW2 : W2.heap.size = w2.heap.size + 1 := by rw [hW2]; simp
  go_wp2_with fail
  rw [← hW2]
  clear hW2
  refine (l02Point_any g B n c _ (hc2.ext xW2) (hb2.ext xW2) hn hne (by omega)).mono ?_
  rintro e w3 ⟨xb, yb, hbb, rfl, hc3, o3⟩
  have hb3 := (hb2.ext xW2).only o3 hne
  have hs3 := o3.size
  have d63 := d6.only o3 (by omega)
  obtain ⟨W3, hW3⟩ : ∃ W3, W3 = w3.alloc (.cells #[.int .i64 xb, .int .i64 yb] 25) := ⟨_, rfl⟩
  have xW3 : Ext w3 W3 := by rw [hW3]; (repeat (first | exact Ext.refl _ | assumption | apply Ext.alloc | apply Ext.drew | apply Ext.drewN | (refine Ext.trans ?_ (by assumption))))
  have d7 : Duo W3 w3.heap.size 25 xb yb := by rw [hW3]; exact Duo.new _ _ _ _
  have go : ∀ p, p < W.heap.size → ∀ x y, Duo W p 25 x y → Duo W3 p 25 x y := fun p hp x y h => ((((h.ext x1).only o2 (by omega)).ext xW2).only o3 (by omega)).ext xW3
  obtain ⟨p6, hp6⟩ : ∃ p, p = w2.heap.size := ⟨_, rfl⟩
  obtain ⟨p7, hp7⟩ : ∃ p, p = w3.heap.size := ⟨_, rfl⟩
  obtain ⟨p2, hp2⟩ : ∃ p, p = w.heap.size := ⟨_, rfl⟩
  have hC : DrC g p2 p6 p7 B n c xa ya xb yb W3 := ⟨hc3.ext xW3, hb3.ext xW3, by rw [hp6]; exact d63.ext xW3, by rw [hp7]; exact d7, ⟨_, _, by rw [hp2]; exact go _ (by omega) _ _ d2⟩, ⟨_, _, by rw [hp2]; exact go _ (by omega) _ _ d3⟩, ⟨_, _, by rw [hp2]; exact go _ (by omega) _ _ d4⟩⟩
  have k6 : p6 ≠ g := by omega
  have k7 : p7 ≠ g := by omega
  have k2 : p2 + 2 < g := by omega
  have k26 : p2 + 2 < p6 := by omega
  have k27 : p2 + 2 < p7 := by omega
  have hlow2 : 0 < n → ∀ b off, B = some ⟨b, off, none⟩ → b < p2 := fun hn b off e => by rw [hp2]; exact hlow hn b off e
  have HR := drR_pre g p2 (DrC g p2 p6 p7 B n c xa ya xb yb) (fun w => Duo w p2 25 xa ya) (fun w => Duo w (p2 + 1) 25 xb yb) (DrS (p2 + 2)) (drC_drew g p2 p6 p7 B n c xa ya xb yb)
  have b0 : Below w.heap.size w W3 := Below.trans (Below.trans (Below.trans (Below.trans (Below.trans xW.below (Below.mono x1.below (by omega))) (o2.below (by omega) (by omega))) (Below.mono xW2.below (by omega))) (o3.below (by omega) (by omega))) (Below.mono xW3.below (by omega))
  have H6 := hide hp6
  have H7 := hide hp7
  have H2 := hide hp2
  have HW := hide hW3
  have HCC := hide hC
  have HRR := hide HR
  have HB0 := hide b0
  clear hp6 hp7 hp2 hW3 hC HR b0 go d7 d63 d6 d2 d3 d4 hb3 hb2 hb1 hc1 hc2 hc3 o2 o3 xW xW2 xW3 x1 hs2 hs3 hsW hsW2 hlt1 hlow hb
  go_wp2
  rw [← HW.out, ← H6.out, ← H7.out, ← H2.out]
  obtain ⟨st2, st3, st4⟩ := drR_st g p2 (DrC g p2 p6 p7 B n c xa ya xb yb) (fun w => Duo w p2 25 xa ya) (fun w => Duo w (p2 + 1) 25 xb yb) (DrS (p2 + 2))
  refine wp_flowT HRR.out (by kernel_rfl) (by kernel_rfl) (fun u => ⟨#[_, _, _, _, _, _, _, _, _, _, _, _, _, _, u 0, u 1, u 2, u 3], _⟩) (fun i => List.getD [_, _, _, _, undef, undef, undef] i undef) [is ?v1_0, is ?v1_1, is ?v1_2, (IsDr), (fun _ w => Duo w p2 25 xa ya), (fun _ w => Duo w (p2 + 1) 25 xb yb), (fun _ w => DrS (p2 + 2) w)] (fun w' => DrC g p2 p6 p7 B n c xa ya xb yb w') _ rfl ?hC1 ?hs1 ?hV1 ?fin1
  case hC1 => exact fun w' hx => hx.c HCC.out
  case hs1 =>
    repeat' (first
      | exact TSteps.nil
      | refine TSteps.cons ?_ ?_
      | ((first
          | refine TStep.plain rfl ?_)
         intro u w hW hC hd K hK
         (try simp [vOf, is, Region.binds] at hd)
         simp only [upd, Nat.reduceEqDiff, if_true, if_false] at hK
         (try simp only [hd] at hK)
         (try (obtain ⟨_, _, e6, e7, ⟨a2, b2, e2⟩, ⟨a3, b3, e3⟩, ⟨a4, b4, e4⟩⟩ := (show DrC g p2 p6 p7 B n c xa ya xb yb w from hC); obtain ⟨i1, i2, i3, i4, i5⟩ := e6.cells; obtain ⟨j1, j2, j3, j4, j5⟩ := e7.cells; obtain ⟨l1, l2, l3, l4, l5⟩ := e2.cells; obtain ⟨m1, m2, m3, m4, m5⟩ := e3.cells; obtain ⟨o1, o2, o3, o4, o5⟩ := (show Duo w (p2 + 1 + 1) 25 a4 b4 from e4).cells))
         (try (obtain ⟨⟨x3, y3, hb3, hu3⟩, _⟩ := hd; simp only [hu3] at hK ⊢))
         go_simp
         (first
           | (refine hK _ _ ?_ ?_; (first | exact rfl); (exact HRR.out.refl _))
           | (go_at_call 18; refine (l02Point_any g B n c _ hC.1 hC.2.1 hn hne hC.1.lt).mono ?_; rintro e w1 ⟨x3, y3, hb3, rfl, hc1, o1⟩; (try go_simp); refine hK _ _ ?_ ?_; exact ⟨x3, y3, hb3, rfl⟩; exact drR_call hne hC hc1 o1 k6 k7 k2)
           | (refine hK undef _ ?_ ?_; (first | exact e2.set _ _ | exact e3.set _ _ | exact ⟨x3, y3, hb3, e4.set _ _⟩); exact drR_store (by omega) hlow2 hC k26 k27 k2 (fun e => by first | exact ⟨rfl, rfl⟩ | omega) (fun e => by first | exact ⟨rfl, rfl⟩ | omega) (fun e => by first | exact hb3 | omega)))))
  case hV1 => (simp only [List.forall_mem_cons]; simp [stableT_is, isDr_st _, st2, st3, st4])
  case fin1 =>
    intro u w2 hW2 hC2 hd
    simp only [AllV, is] at hd
    have hs3 := hd.2.2.2.1
    have hs4 := hd.2.2.2.2.1
    have hs5 := hd.2.2.2.2.2.1
    have hs6 := hd.2.2.2.2.2.2.1
    simp only [hd]
    clear hd
    obtain ⟨x3, y3, hb3, hd6⟩ := hs6
    obtain ⟨i1, i2, i3, _, _⟩ := (show Duo w2 p2 25 xa ya from hs4).cells
    obtain ⟨j1, j2, j3, _, _⟩ := (show Duo w2 (p2 + 1) 25 xb yb from hs5).cells
    obtain ⟨l1, l2, l3, _, _⟩ := (show Duo w2 (p2 + 1 + 1) 25 x3 y3 from hd6).cells
    have hbel : Below w.heap.size w w2 := by
      have h0 := HB0.out
      have h1 := h0.size
      have h2 := H2.out
      exact Below.trans h0 ⟨hW2.os, hW2.tape, hW2.output, hW2.size, fun k hk => hW2.block k (by omega) (by omega) (by omega)⟩
    have HBEL := hide hbel
    clear hbel hW2 hC2 hs4 hs5 hd6 hs3 st2 st3 st4
    go_wp2
    exact bodyPost_ret (v := .tuple #[.agg #[.int .i64 xa, .int .i64 ya], .agg #[.int .i64 xb, .int .i64 yb], .agg #[.int .i64 x3, .int .i64 y3]]) (by simp [results, Try.results6, go_sem, i2, i3, j2, j3, l2, l3]) rfl ⟨xa, ya, xb, yb, x3, y3, hba, hbb, hb3, rfl, HBEL.out⟩

end Go.Proofs.Ytnomiefjefopbaa
