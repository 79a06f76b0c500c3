/-
  Contract: the draw of two walls.
-/
import Derived.Test.YtnomiefjefopbaaDrawW
import Derived.Deep.RegionHeld3
namespace Go.Proofs.Ytnomiefjefopbaa
open Go.RowKit

theorem Qua.set2 {w : World} {b : Nat} {T : TypeId} {x y x' y' : Int} (h : Qua w b T x y x' y') (a b' : Int) : Qua ((w.setCell ⟨b, 0, none⟩ (.int .i64 a)).setCell ⟨b, 1, none⟩ (.int .i64 b')) b T a b' x' y' := by
  unfold Qua at *
  simp [World.setCell, Array.getElem?_modify, h]
theorem Qua.far {w : World} {b : Nat} {T : TypeId} {x y x' y' : Int} (h : Qua w b T x y x' y') {p : Addr} (hne : b ≠ p.block) (u : Value) : Qua (w.setCell p u) b T x y x' y' := by
  have e : (w.setCell p u).heap[b]? = w.heap[b]? := Below.heap_setCell _ _ _ _ hne
  unfold Qua at *
  rw [e]
  exact h
theorem Qua.far2 {w : World} {b p : Nat} {T : TypeId} {x y x' y' a b' : Int} (h : Qua w b T x y x' y') (hne : b ≠ p) : Qua ((w.setCell ⟨p, 0, none⟩ (.int .i64 a)).setCell ⟨p, 1, none⟩ (.int .i64 b')) b T x y x' y' := (h.far (p := ⟨p, 0, none⟩) hne _).far (p := ⟨p, 1, none⟩) hne _

/-- a drawn wall -/
def WallD (x1 y1 x2 y2 : Int) : Prop := ((-2 ≤ x1 ∧ x1 ≤ 7) ∧ (-2 ≤ y1 ∧ y1 ≤ 6)) ∧ ((-2 ≤ x2 ∧ x2 ≤ 7) ∧ (-2 ≤ y2 ∧ y2 ≤ 6)) ∧ (x1 == x2 && y1 == y2) = false



set_option maxRecDepth 100000 in
set_option maxHeartbeats 3200000 in
theorem DrawWalls_any (B : Option Addr) (n c : Nat) (w : World) (hb : RB w B n) (hn : n ≤ 1048576) :
    Calls Try.prog 11 #[.slice B n c] w fun e w' => ∃ x1 y1 x2 y2 x3 y3 x4 y4 : Int, WallD x1 y1 x2 y2 ∧ WallD x3 y3 x4 y4 ∧ e = .returned (.tuple #[.agg #[.int .i64 x1, .int .i64 y1, .int .i64 x2, .int .i64 y2], .agg #[.int .i64 x3, .int .i64 y3, .int .i64 x4, .int .i64 y4]]) ∧ Below w.heap.size w w' := by
  have hlow := rb_low hb
  go_enter Try.func11, Try.ntmps11
  go_wp2_with fail
  obtain ⟨W, hW⟩ : ∃ W, W = (w.alloc (.cells #[.int .i64 0, .int .i64 0, .int .i64 0, .int .i64 0] 32)).alloc (.cells #[.int .i64 0, .int .i64 0, .int .i64 0, .int .i64 0] 32) := ⟨_, rfl⟩
  have hsW : W.heap.size = w.heap.size + 2 := by rw [hW]; simp
  have xW : Ext w W := by rw [hW]; (repeat (first | exact Ext.refl _ | assumption | apply Ext.alloc | apply Ext.drew | apply Ext.drewN | (refine Ext.trans ?_ (by assumption))))
  have R2 : Qua W w.heap.size 32 0 0 0 0 := by rw [hW]; exact (Qua.new w _ _ _ _ _).ext (by (repeat (first | exact Ext.refl _ | assumption | apply Ext.alloc | apply Ext.drew | apply Ext.drewN | (refine Ext.trans ?_ (by assumption)))))
  have R3 : Qua W (w.heap.size + 1) 32 0 0 0 0 := by
    have h := Qua.new (w.alloc (.cells #[.int .i64 0, .int .i64 0, .int .i64 0, .int .i64 0] 32)) 32 0 0 0 0
    have e : (w.alloc (.cells #[.int .i64 0, .int .i64 0, .int .i64 0, .int .i64 0] 32)).heap.size = w.heap.size + 1 := by simp
    rw [e] at h
    rw [hW]; exact h
  rw [← hW]
  clear hW
  have hne := rb_ne hb (show w.heap.size ≤ W.heap.size by omega)
  refine (l01New_any B n c W (hb.ext xW) hn).mono ?_
  rintro e w1 ⟨rfl, hc1, n1⟩
  obtain ⟨g, hg⟩ : ∃ g, g = W.heap.size := ⟨_, rfl⟩
  rw [← hg] at hc1 hne ⊢
  have hg1 : w.heap.size + 2 ≤ g := by omega
  have hg2 : g ≤ w.heap.size + 2 := by omega
  clear hg
  have hlt1 := hc1.lt
  have hb1 := (hb.ext xW).ext n1
  go_wp2_with fail
  refine (l03Wall_any g B n c _ hc1 hb1 hn hne hlt1).mono ?_
  rintro e w2 ⟨x1, y1, x2, y2, ba, bb, hz, rfl, hc2, o2⟩
  have hb2 := hb1.only o2 hne
  have hs2 := o2.size
  obtain ⟨W2, hW2⟩ : ∃ W2, W2 = w2.alloc (.cells #[.int .i64 x1, .int .i64 y1, .int .i64 x2, .int .i64 y2] 32) := ⟨_, rfl⟩
  have xW2 : Ext w2 W2 := by rw [hW2]; (repeat (first | exact Ext.refl _ | assumption | apply Ext.alloc | apply Ext.drew | apply Ext.drewN | (refine Ext.trans ?_ (by assumption))))
  have Q5 : Qua W2 w2.heap.size 32 x1 y1 x2 y2 := by rw [hW2]; exact Qua.new _ _ _ _ _ _
  have hsW2 : W2.heap.size = w2.heap.size + 1 := by rw [hW2]; simp
  go_wp2_with fail
  rw [← hW2]
  clear hW2
  refine (l03Wall_any g B n c _ (hc2.ext xW2) (hb2.ext xW2) hn hne (by omega)).mono ?_
  rintro e w3 ⟨x3, y3, x4, y4, bc, bd, hz2, rfl, hc3, o3⟩
  have hb3 := (hb2.ext xW2).only o3 hne
  have hs3 := o3.size
  obtain ⟨W3, hW3⟩ : ∃ W3, W3 = w3.alloc (.cells #[.int .i64 x3, .int .i64 y3, .int .i64 x4, .int .i64 y4] 32) := ⟨_, rfl⟩
  have xW3 : Ext w3 W3 := by rw [hW3]; (repeat (first | exact Ext.refl _ | assumption | apply Ext.alloc | apply Ext.drew | apply Ext.drewN | (refine Ext.trans ?_ (by assumption))))
  have Q6 : Qua W3 w3.heap.size 32 x3 y3 x4 y4 := by rw [hW3]; exact Qua.new _ _ _ _ _ _
  have hsW3 : W3.heap.size = w3.heap.size + 1 := by rw [hW3]; simp
  go_wp2_with fail
  rw [← hW3]
  clear hW3
  refine (l01Once_any g B n c 4 _ (hc3.ext xW3) (hb3.ext xW3) hn hne (by omega) (by omega)).mono ?_
  rintro e w4 ⟨once, rfl, hc4, o4⟩
  have hs4 := o4.size
  have hbl4 : Below w.heap.size w w4 := (((((Only.of_ext xW).trans (Only.of_ext n1)).trans o2).trans (Only.of_ext xW2)).trans o3).trans ((Only.of_ext xW3).trans o4) |>.below (by omega) (Nat.le_refl _)
  have hs1 := n1.size
  have E5 := ((Q5.only o3 (by omega)).ext xW3).only o4 (by omega)
  have E6 := Q6.only o4 (by omega)
  have E2 := ((((R2.ext n1).only o2 (by omega)).ext xW2).only o3 (by omega)).ext xW3 |>.only o4 (by omega)
  have E3 := ((((R3.ext n1).only o2 (by omega)).ext xW2).only o3 (by omega)).ext xW3 |>.only o4 (by omega)
  obtain ⟨a5, ha5⟩ : ∃ a, a = w2.heap.size := ⟨_, rfl⟩
  obtain ⟨a6, ha6⟩ : ∃ a, a = w3.heap.size := ⟨_, rfl⟩
  rw [← ha5] at E5 ⊢
  rw [← ha6] at E6 ⊢
  have d1 : ¬ w.heap.size = a5 := by omega
  have d2 : ¬ w.heap.size = a6 := by omega
  have d3 : ¬ w.heap.size + 1 = a5 := by omega
  have d4 : ¬ w.heap.size + 1 = a6 := by omega
  have d5 : ¬ a5 = a6 := by omega
  have d6 : ¬ a6 = a5 := by omega
  have e1 : ¬ a5 = w.heap.size := by omega
  have e2 : ¬ a6 = w.heap.size := by omega
  have e3 : ¬ a5 = w.heap.size + 1 := by omega
  have e4 : ¬ a6 = w.heap.size + 1 := by omega
  have hge6 : w.heap.size ≤ a6 := by omega
  have hw1 : WallD x1 y1 x2 y2 := ⟨by omega, by omega, hz⟩
  have hw2 : WallD x3 y3 x4 y4 := ⟨by omega, by omega, hz2⟩
  clear ha5 ha6 xW n1 xW2 xW3 hb hb2 hb3 hlow hsW hsW2 hsW3 hs1 hs2 hs3 hs4
  cases once
  · obtain ⟨l1, ⟨p0, p1, p2, p3⟩, _⟩ := (E5).cells
    obtain ⟨l2, ⟨q0, q1, q2, q3⟩, _⟩ := (E6).cells
    obtain ⟨l3, ⟨r0, r1, r2, r3⟩, s0, s1, s2, s3⟩ := (E2).cells
    obtain ⟨l4, ⟨t0, t1, t2, t3⟩, u0, u1, u2, u3⟩ := (E3).cells
    have hbl := hbl4
    clear hb1 hc1 hc2 hc3 hc4 o2 o3 o4 Q5 Q6 R2 R3
    go_wp2
    go_region_held3 (fun w' => (w'.cell? ⟨a5, 0, none⟩ = some (.int .i64 x1) ∧ w'.cell? ⟨a5, 1, none⟩ = some (.int .i64 y1) ∧ w'.cell? ⟨a5, 2, none⟩ = some (.int .i64 x2) ∧ w'.cell? ⟨a5, 3, none⟩ = some (.int .i64 y2)) ∧ (w'.cell? ⟨a6, 0, none⟩ = some (.int .i64 (x3)) ∧ w'.cell? ⟨a6, 1, none⟩ = some (.int .i64 (y3)) ∧ w'.cell? ⟨a6, 2, none⟩ = some (.int .i64 (x4)) ∧ w'.cell? ⟨a6, 3, none⟩ = some (.int .i64 (y4)))) (simp [*, go_sem]) (fail)
    go_wp2
    refine bodyPost_ret (v := .tuple #[.agg #[.int .i64 x1, .int .i64 y1, .int .i64 x2, .int .i64 y2], .agg #[.int .i64 x3, .int .i64 y3, .int .i64 x4, .int .i64 y4]]) (by simp [results, Try.results11, go_sem, *]) rfl ⟨x1, y1, x2, y2, _, _, _, _, hw1, hw2, rfl, ?_⟩
    (repeat (first | (with_reducible exact hbl) | (with_reducible (refine Below.drew ?_)) | (with_reducible (refine Below.setCell ?_ ?_ _); rotate_left; (simp; try omega))))
  · have m1 := E5.cells
    have m2 := E6.cells
    obtain ⟨k1, ⟨_, _, k2, k3⟩, _⟩ := m1
    obtain ⟨k4, ⟨_, _, k5, k6⟩, k7, k8, _⟩ := m2
    cases z1 : (x2 == x4)
    · have hw3 : WallD x2 y2 x4 y4 := ⟨by omega, by omega, by rw [z1]; rfl⟩
      obtain ⟨ws, hws⟩ : ∃ ws, ws = (w4.setCell ⟨a6, 0, none⟩ (.int .i64 x2)).setCell ⟨a6, 1, none⟩ (.int .i64 y2) := ⟨_, rfl⟩
      have G5 : Qua ws a5 32 x1 y1 x2 y2 := by rw [hws]; exact E5.far2 d5
      have G6 : Qua ws a6 32 x2 y2 x4 y4 := by rw [hws]; exact E6.set2 _ _
      have G2 : Qua ws w.heap.size 32 0 0 0 0 := by rw [hws]; exact E2.far2 d2
      have G3 : Qua ws (w.heap.size + 1) 32 0 0 0 0 := by rw [hws]; exact E3.far2 d4
      have hbl5 : Below w.heap.size w ws := by rw [hws]; exact (hbl4.setCell (by simpa using hge6) _).setCell (by simpa using hge6) _
      go_wp2_with fail
      rw [← hws]
      clear hws k1 k2 k3 k4 k5 k6 k7 k8 E5 E6 E2 E3
      obtain ⟨l1, ⟨p0, p1, p2, p3⟩, _⟩ := (G5).cells
      obtain ⟨l2, ⟨q0, q1, q2, q3⟩, _⟩ := (G6).cells
      obtain ⟨l3, ⟨r0, r1, r2, r3⟩, s0, s1, s2, s3⟩ := (G2).cells
      obtain ⟨l4, ⟨t0, t1, t2, t3⟩, u0, u1, u2, u3⟩ := (G3).cells
      have hbl := hbl5
      clear hb1 hc1 hc2 hc3 hc4 o2 o3 o4 Q5 Q6 R2 R3
      go_wp2
      go_region_held3 (fun w' => (w'.cell? ⟨a5, 0, none⟩ = some (.int .i64 x1) ∧ w'.cell? ⟨a5, 1, none⟩ = some (.int .i64 y1) ∧ w'.cell? ⟨a5, 2, none⟩ = some (.int .i64 x2) ∧ w'.cell? ⟨a5, 3, none⟩ = some (.int .i64 y2)) ∧ (w'.cell? ⟨a6, 0, none⟩ = some (.int .i64 (x2)) ∧ w'.cell? ⟨a6, 1, none⟩ = some (.int .i64 (y2)) ∧ w'.cell? ⟨a6, 2, none⟩ = some (.int .i64 (x4)) ∧ w'.cell? ⟨a6, 3, none⟩ = some (.int .i64 (y4)))) (simp [*, go_sem]) (fail)
      go_wp2
      refine bodyPost_ret (v := .tuple #[.agg #[.int .i64 x1, .int .i64 y1, .int .i64 x2, .int .i64 y2], .agg #[.int .i64 x2, .int .i64 y2, .int .i64 x4, .int .i64 y4]]) (by simp [results, Try.results11, go_sem, *]) rfl ⟨x1, y1, x2, y2, _, _, _, _, hw1, hw3, rfl, ?_⟩
      (repeat (first | (with_reducible exact hbl) | (with_reducible (refine Below.drew ?_)) | (with_reducible (refine Below.setCell ?_ ?_ _); rotate_left; (simp; try omega))))
    · cases z2 : (y2 == y4)
      · have hw3 : WallD x2 y2 x4 y4 := ⟨by omega, by omega, by rw [z1, z2]; rfl⟩
        obtain ⟨ws, hws⟩ : ∃ ws, ws = (w4.setCell ⟨a6, 0, none⟩ (.int .i64 x2)).setCell ⟨a6, 1, none⟩ (.int .i64 y2) := ⟨_, rfl⟩
        have G5 : Qua ws a5 32 x1 y1 x2 y2 := by rw [hws]; exact E5.far2 d5
        have G6 : Qua ws a6 32 x2 y2 x4 y4 := by rw [hws]; exact E6.set2 _ _
        have G2 : Qua ws w.heap.size 32 0 0 0 0 := by rw [hws]; exact E2.far2 d2
        have G3 : Qua ws (w.heap.size + 1) 32 0 0 0 0 := by rw [hws]; exact E3.far2 d4
        have hbl5 : Below w.heap.size w ws := by rw [hws]; exact (hbl4.setCell (by simpa using hge6) _).setCell (by simpa using hge6) _
        go_wp2_with fail
        rw [← hws]
        clear hws k1 k2 k3 k4 k5 k6 k7 k8 E5 E6 E2 E3
        obtain ⟨l1, ⟨p0, p1, p2, p3⟩, _⟩ := (G5).cells
        obtain ⟨l2, ⟨q0, q1, q2, q3⟩, _⟩ := (G6).cells
        obtain ⟨l3, ⟨r0, r1, r2, r3⟩, s0, s1, s2, s3⟩ := (G2).cells
        obtain ⟨l4, ⟨t0, t1, t2, t3⟩, u0, u1, u2, u3⟩ := (G3).cells
        have hbl := hbl5
        clear hb1 hc1 hc2 hc3 hc4 o2 o3 o4 Q5 Q6 R2 R3
        go_wp2
        go_region_held3 (fun w' => (w'.cell? ⟨a5, 0, none⟩ = some (.int .i64 x1) ∧ w'.cell? ⟨a5, 1, none⟩ = some (.int .i64 y1) ∧ w'.cell? ⟨a5, 2, none⟩ = some (.int .i64 x2) ∧ w'.cell? ⟨a5, 3, none⟩ = some (.int .i64 y2)) ∧ (w'.cell? ⟨a6, 0, none⟩ = some (.int .i64 (x2)) ∧ w'.cell? ⟨a6, 1, none⟩ = some (.int .i64 (y2)) ∧ w'.cell? ⟨a6, 2, none⟩ = some (.int .i64 (x4)) ∧ w'.cell? ⟨a6, 3, none⟩ = some (.int .i64 (y4)))) (simp [*, go_sem]) (fail)
        go_wp2
        refine bodyPost_ret (v := .tuple #[.agg #[.int .i64 x1, .int .i64 y1, .int .i64 x2, .int .i64 y2], .agg #[.int .i64 x2, .int .i64 y2, .int .i64 x4, .int .i64 y4]]) (by simp [results, Try.results11, go_sem, *]) rfl ⟨x1, y1, x2, y2, _, _, _, _, hw1, hw3, rfl, ?_⟩
        (repeat (first | (with_reducible exact hbl) | (with_reducible (refine Below.drew ?_)) | (with_reducible (refine Below.setCell ?_ ?_ _); rotate_left; (simp; try omega))))
      · obtain ⟨l1, ⟨p0, p1, p2, p3⟩, _⟩ := (E5).cells
        obtain ⟨l2, ⟨q0, q1, q2, q3⟩, _⟩ := (E6).cells
        obtain ⟨l3, ⟨r0, r1, r2, r3⟩, s0, s1, s2, s3⟩ := (E2).cells
        obtain ⟨l4, ⟨t0, t1, t2, t3⟩, u0, u1, u2, u3⟩ := (E3).cells
        have hbl := hbl4
        clear hb1 hc1 hc2 hc3 hc4 o2 o3 o4 Q5 Q6 R2 R3
        go_wp2
        go_region_held3 (fun w' => (w'.cell? ⟨a5, 0, none⟩ = some (.int .i64 x1) ∧ w'.cell? ⟨a5, 1, none⟩ = some (.int .i64 y1) ∧ w'.cell? ⟨a5, 2, none⟩ = some (.int .i64 x2) ∧ w'.cell? ⟨a5, 3, none⟩ = some (.int .i64 y2)) ∧ (w'.cell? ⟨a6, 0, none⟩ = some (.int .i64 (x3)) ∧ w'.cell? ⟨a6, 1, none⟩ = some (.int .i64 (y3)) ∧ w'.cell? ⟨a6, 2, none⟩ = some (.int .i64 (x4)) ∧ w'.cell? ⟨a6, 3, none⟩ = some (.int .i64 (y4)))) (simp [*, go_sem]) (fail)
        go_wp2
        refine bodyPost_ret (v := .tuple #[.agg #[.int .i64 x1, .int .i64 y1, .int .i64 x2, .int .i64 y2], .agg #[.int .i64 x3, .int .i64 y3, .int .i64 x4, .int .i64 y4]]) (by simp [results, Try.results11, go_sem, *]) rfl ⟨x1, y1, x2, y2, _, _, _, _, hw1, hw2, rfl, ?_⟩
        (repeat (first | (with_reducible exact hbl) | (with_reducible (refine Below.drew ?_)) | (with_reducible (refine Below.setCell ?_ ?_ _); rotate_left; (simp; try omega))))

end Go.Proofs.Ytnomiefjefopbaa
