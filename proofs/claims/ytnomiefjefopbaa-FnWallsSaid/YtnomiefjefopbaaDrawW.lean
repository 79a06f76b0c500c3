/-
  Contracts: the draw of walls.
-/
import Derived.Test.YtnomiefjefopbaaDraw2
import Derived.Test.YtnomiefjefopbaaDrawP
namespace Go.Proofs.Ytnomiefjefopbaa
open Go.RowKit

/-- a block of four numbers, whole -/
def Qua (w : World) (b : Nat) (T : TypeId) (x y x' y' : Int) : Prop := w.heap[b]? = some (.cells #[.int .i64 x, .int .i64 y, .int .i64 x', .int .i64 y'] T (0, 0))
theorem Qua.cells {w : World} {b : Nat} {T : TypeId} {x y x' y' : Int} (h : Qua w b T x y x' y') : b < w.heap.size ∧ (w.cell? ⟨b, 0, none⟩ = some (.int .i64 x) ∧ w.cell? ⟨b, 1, none⟩ = some (.int .i64 y) ∧ w.cell? ⟨b, 2, none⟩ = some (.int .i64 x') ∧ w.cell? ⟨b, 3, none⟩ = some (.int .i64 y')) ∧ w.frozen? ⟨b, 0, none⟩ = false ∧ w.frozen? ⟨b, 1, none⟩ = false ∧ w.frozen? ⟨b, 2, none⟩ = false ∧ w.frozen? ⟨b, 3, none⟩ = false := by
  refine ⟨hp_lt h, ⟨?_, ?_, ?_, ?_⟩, ?_, ?_, ?_, ?_⟩ <;> (unfold Qua at h; simp [World.cell?, World.frozen?, h])
theorem Qua.new (w : World) (T : TypeId) (x y x' y' : Int) : Qua (w.alloc (.cells #[.int .i64 x, .int .i64 y, .int .i64 x', .int .i64 y'] T)) w.heap.size T x y x' y' := heap_alloc_new w _
theorem Qua.ext {w w' : World} {b : Nat} {T : TypeId} {x y x' y' : Int} (h : Qua w b T x y x' y') (hx : Ext w w') : Qua w' b T x y x' y' := (hx.below.block b (hp_lt h)).trans h
theorem Qua.only {w w' : World} {b g : Nat} {T : TypeId} {x y x' y' : Int} (h : Qua w b T x y x' y') (hx : Only g w w') (hb : b ≠ g) : Qua w' b T x y x' y' := (hx.block b (hp_lt h) hb).trans h

theorem Cur.set_ne {w : World} {g : Nat} {B : Option Addr} {n c : Nat} (h : Cur w g B n c) {p : Addr} (hp : p.block ≠ g) (u : Value) : Cur (w.setCell p u) g B n c := by
  obtain ⟨i, hh, h1, h2⟩ := h
  exact ⟨i, hh, (Below.heap_setCell _ _ _ _ (by first | exact hp | exact hp.symm)).trans h1, h2⟩

theorem Only.allocN {g : Nat} {w a : World} (h : Only g w a) (o : Obj) : Only g w (a.alloc o) := h.ext ((Ext.refl a).alloc o)

/-- what a wall's draw leaves: the ends differ -/
def WallP (g : Nat) (B : Option Addr) (n c : Nat) (w : World) (e : Ending) (w' : World) : Prop :=
  ∃ x1 y1 x2 y2 : Int, ((-2 ≤ x1 ∧ x1 ≤ 6) ∧ (-2 ≤ y1 ∧ y1 ≤ 6)) ∧ ((-2 ≤ x2 ∧ x2 ≤ 7) ∧ (-2 ≤ y2 ∧ y2 ≤ 6)) ∧ (x1 == x2 && y1 == y2) = false ∧ e = .returned (.agg #[.int .i64 x1, .int .i64 y1, .int .i64 x2, .int .i64 y2]) ∧ Cur w' g B n c ∧ Only g w w'


set_option maxRecDepth 100000 in
set_option maxHeartbeats 1600000 in
theorem l03Wall_any (g : Nat) (B : Option Addr) (n c : Nat) (w : World) (hc : Cur w g B n c) (hb : RB w B n) (hn : n ≤ 1048576) (hne : 0 < n → ∀ b off, B = some ⟨b, off, none⟩ → b ≠ g) (hg : g < w.heap.size) :
    Calls Try.prog 23 #[.pointer (some ⟨g, 0, none⟩)] w (WallP g B n c w) := by
  have hcA := hc.alloc (.cells #[.int .i64 0, .int .i64 0, .int .i64 0, .int .i64 0] 32)
  have hxA : Ext w (w.alloc (.cells #[.int .i64 0, .int .i64 0, .int .i64 0, .int .i64 0] 32)) := by (repeat (first | exact Ext.refl _ | assumption | apply Ext.alloc | apply Ext.drew | apply Ext.drewN | (refine Ext.trans ?_ (by assumption))))
  have hbA := hb.ext hxA
  go_enter Try.func23, Try.ntmps23
  go_wp2_with fail
  refine (l02Point_any g B n c _ hcA hbA hn hne (by simp; omega)).mono ?_
  rintro e w1 ⟨x1, y1, hb1, rfl, hc1, o1⟩
  have hbB := hbA.only o1 hne
  go_wp2_with fail
  refine (l02Point_any g B n c _ hc1 hbB hn hne hc1.lt).mono ?_
  rintro e w2 ⟨x2, y2, hb2, rfl, hc2, o2⟩
  have hgq : w.heap.size ≠ g := by omega
  have hq := ((Qua.new w 32 0 0 0 0).only o1 hgq).only o2 hgq
  obtain ⟨hlt2, ⟨c0, c1, c2, c3⟩, f0, f1, f2, f3⟩ := hq.cells
  have o3 : Only g w w2 := ((Only.of_ext hxA).trans o1).trans o2
  clear hq hbA hbB hcA hc1 o1 o2 hxA
  cases z1 : (x1 == x2)
  · go_wp2
    refine bodyPost_ret (v := .agg #[.int .i64 x1, .int .i64 y1, .int .i64 x2, .int .i64 y2]) (by simp [results, Try.results23, go_sem, World.cell?_alloc_past, size_setCell, hlt2, c0, c1, c2, c3]) rfl ⟨x1, y1, x2, y2, hb1, by omega, (by rw [z1]; rfl), rfl, ?_, ?_⟩
    · (repeat (first | (with_reducible exact hc2) | (with_reducible (refine Cur.alloc ?_ _)) | (with_reducible (refine Cur.set_ne ?_ ?_ _); rotate_left; (simp; omega))))
    · (repeat (first | (with_reducible exact o3) | (with_reducible (refine Only.allocN ?_ _)) | (with_reducible (refine Only.setNew ?_ ?_ _ _); rotate_left; (simp; try omega))))
  · cases z2 : (y1 == y2)
    · go_wp2
      refine bodyPost_ret (v := .agg #[.int .i64 x1, .int .i64 y1, .int .i64 x2, .int .i64 y2]) (by simp [results, Try.results23, go_sem, World.cell?_alloc_past, size_setCell, hlt2, c0, c1, c2, c3]) rfl ⟨x1, y1, x2, y2, hb1, by omega, (by rw [z1, z2]; rfl), rfl, ?_, ?_⟩
      · (repeat (first | (with_reducible exact hc2) | (with_reducible (refine Cur.alloc ?_ _)) | (with_reducible (refine Cur.set_ne ?_ ?_ _); rotate_left; (simp; omega))))
      · (repeat (first | (with_reducible exact o3) | (with_reducible (refine Only.allocN ?_ _)) | (with_reducible (refine Only.setNew ?_ ?_ _ _); rotate_left; (simp; try omega))))
    · have e1 : x1 = x2 := by simpa using z1
      have hz : (x1 == x2 + 1 && y1 == y2) = false := by rw [show (x1 == x2 + 1) = false by simp; omega]; rfl
      have HZ := hide hz
      clear hz e1
      go_wp2
      refine bodyPost_ret (v := .agg #[.int .i64 x1, .int .i64 y1, .int .i64 (x2 + 1), .int .i64 y2]) (by simp [results, Try.results23, go_sem, World.cell?_alloc_past, size_setCell, hlt2, c0, c1, c2, c3]) rfl ⟨x1, y1, x2 + 1, y2, hb1, by omega, HZ.out, rfl, ?_, ?_⟩
      · (repeat (first | (with_reducible exact hc2) | (with_reducible (refine Cur.alloc ?_ _)) | (with_reducible (refine Cur.set_ne ?_ ?_ _); rotate_left; (simp; omega))))
      · (repeat (first | (with_reducible exact o3) | (with_reducible (refine Only.allocN ?_ _)) | (with_reducible (refine Only.setNew ?_ ?_ _ _); rotate_left; (simp; try omega))))

end Go.Proofs.Ytnomiefjefopbaa
