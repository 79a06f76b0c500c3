/- 2 texts joined: Pts Area. -/
import Derived.Test.YtanagdlikoinaaaJ1
namespace Go.Proofs.Ytanagdlikoinaaa
open Go.RowKit

def allok (l : List (Int × Int)) : Bool := l.all fun p => pok p.1 p.2

theorem allok_take_succ (l : List (Int × Int)) (k : Nat) (h : k < l.length) : allok (l.take (k+1)) = (allok (l.take k) && pok (gx l k) (gy l k)) := by
  unfold allok gx gy
  rw [List.take_succ_eq_append_getElem h, List.all_append, List.getD_eq_getElem?_getD, List.getElem?_eq_getElem h]
  simp

theorem allok_false (l : List (Int × Int)) (k : Nat) (h : k < l.length) (hp : pok (gx l k) (gy l k) = false) : allok l = false := by
  unfold allok
  rw [List.all_eq_false]
  refine ⟨l[k], List.getElem_mem h, ?_⟩
  unfold gx gy at hp
  rw [List.getD_eq_getElem?_getD, List.getElem?_eq_getElem h] at hp
  simpa using hp

set_option maxHeartbeats 400000 in
theorem pointsOk_any (A : Option Addr) (l : List (Int × Int)) (c : Nat) (w : World) (hp : RPts w A l) (hn : l.length ≤ 1048576) :
    Calls Try.prog 37 #[.slice A l.length c] w fun e w' => e = .returned (.bool (allok l)) ∧ Ext w w' := by
  go_enter Try.func37, Try.ntmps37
  go_wp2
  go_loopw [7] (fun i wr => ∃ k : Nat, k ≤ l.length ∧ i = .int .i64 k ∧ Ext w wr ∧ Hid (allok (l.take k) = true)) (fun i _ => l.length - (intOf i).toNat)
  case atStart => exact ⟨0, Nat.zero_le _, rfl, Ext.refl _, rfl⟩
  case round =>
    obtain ⟨k, hk, rfl, hbl, HOK⟩ := hrel
    by_cases hlt : k < l.length
    · obtain ⟨b, off, rfl, _, hx, hy⟩ := (hp.ext hbl).at_ hlt
      by_cases ho : pok (gx l k) (gy l k) = true
      · have HO := hide ho
        go_wp2_with ((go_at_call 39; refine (pok_any _ _ _).mono ?_; rintro e w1 ⟨rfl, hb⟩))
        go_roundw
        case rel => exact ⟨k + 1, by omega, by go_num, by (repeat (first | exact Ext.refl _ | assumption | apply Ext.alloc | apply Ext.drew | apply Ext.drewN | (refine Ext.trans ?_ (by assumption)))), by unfold Hid; rw [allok_take_succ _ _ hlt, HOK.out, HO.out]; rfl⟩
        case measure => simp [intOf]; omega
      · have hf : pok (gx l k) (gy l k) = false := by simpa using ho
        have HF := hide hf
        go_wp2_with ((go_at_call 39; refine (pok_any _ _ _).mono ?_; rintro e w1 ⟨rfl, hb⟩))
        go_ret
        exact ⟨by rw [allok_false _ _ hlt HF.out]; rfl, by (repeat (first | exact Ext.refl _ | assumption | apply Ext.alloc | apply Ext.drew | apply Ext.drewN | (refine Ext.trans ?_ (by assumption))))⟩
    · go_wp2
      go_ret
      have e : l.take k = l := List.take_of_length_le (by omega)
      rw [e] at HOK
      exact ⟨by rw [HOK.out]; rfl, by assumption⟩

theorem pointsOk2_any (b : Nat) (ax ay bx by_ : Int) (w : World) (hb : b < w.heap.size) (hc : w.cell? ⟨b, 0, none⟩ = some (.int .i64 ax) ∧ w.cell? ⟨b, 1, none⟩ = some (.int .i64 ay) ∧ w.cell? ⟨b, 2, none⟩ = some (.int .i64 bx) ∧ w.cell? ⟨b, 3, none⟩ = some (.int .i64 by_)) :
    Calls Try.prog 37 #[.slice (some ⟨b, 0, none⟩) 2 2] w fun e w' => e = .returned (.bool (pok2 ax ay bx by_)) ∧ Ext w w' := by
  have hp : PtsAt w b 0 [(ax, ay), (bx, by_)] := by
    obtain ⟨h0, h1, h2, h3⟩ := hc
    intro k hk
    match k, hk with
    | 0, _ => exact ⟨by simpa [gx] using h0, by simpa [gy] using h1⟩
    | 1, _ => exact ⟨by simpa [gx] using h2, by simpa [gy] using h3⟩
  refine (pointsOk_any (some ⟨b, 0, none⟩) [(ax, ay), (bx, by_)] 2 _ (fun _ => ⟨_, _, rfl, Nat.zero_le _, hb, hp⟩) (by simp)).mono ?_
  rintro e w1 ⟨rfl, hx⟩
  exact ⟨by simp [allok, pok2], hx⟩

theorem pointsOk3_any (b : Nat) (ax ay bx by_ cx cy : Int) (w : World) (hb : b < w.heap.size) (hc : w.cell? ⟨b, 0, none⟩ = some (.int .i64 ax) ∧ w.cell? ⟨b, 1, none⟩ = some (.int .i64 ay) ∧ w.cell? ⟨b, 2, none⟩ = some (.int .i64 bx) ∧ w.cell? ⟨b, 3, none⟩ = some (.int .i64 by_) ∧ w.cell? ⟨b, 4, none⟩ = some (.int .i64 cx) ∧ w.cell? ⟨b, 5, none⟩ = some (.int .i64 cy)) :
    Calls Try.prog 37 #[.slice (some ⟨b, 0, none⟩) 3 3] w fun e w' => e = .returned (.bool (pok3 ax ay bx by_ cx cy)) ∧ Ext w w' := by
  have hp : PtsAt w b 0 [(ax, ay), (bx, by_), (cx, cy)] := by
    obtain ⟨h0, h1, h2, h3, h4, h5⟩ := hc
    intro k hk
    match k, hk with
    | 0, _ => exact ⟨by simpa [gx] using h0, by simpa [gy] using h1⟩
    | 1, _ => exact ⟨by simpa [gx] using h2, by simpa [gy] using h3⟩
    | 2, _ => exact ⟨by simpa [gx] using h4, by simpa [gy] using h5⟩
  refine (pointsOk_any (some ⟨b, 0, none⟩) [(ax, ay), (bx, by_), (cx, cy)] 3 _ (fun _ => ⟨_, _, rfl, Nat.zero_le _, hb, hp⟩) (by simp)).mono ?_
  rintro e w1 ⟨rfl, hx⟩
  exact ⟨by simp [allok, pok3], hx⟩

end Go.Proofs.Ytanagdlikoinaaa

namespace Go.Proofs.Ytanagdlikoinaaa
open Go.RowKit

/-- the first k terms of twice the area -/
def areaTo (l : List (Int × Int)) : Nat → Int
  | 0 => 0
  | k + 1 => areaTo l k + (gx l k * gy l (nx l k) - gy l k * gx l (nx l k))
theorem areaTo_succ (l : List (Int × Int)) (k : Nat) : areaTo l (k + 1) = areaTo l k + (gx l k * gy l (nx l k) - gy l k * gx l (nx l k)) := rfl
/-- twice the area of a polygon, with a sign -/
def areaZ (l : List (Int × Int)) : Int := areaTo l l.length

/-- all points are valid, and there are at most ten -/
def Fine (l : List (Int × Int)) : Prop := allok l = true ∧ l.length ≤ 10

theorem Fine.pok {l : List (Int × Int)} (h : Fine l) {k : Nat} (hk : k < l.length) : pok (gx l k) (gy l k) = true := by
  have := List.all_eq_true.1 h.1 l[k] (List.getElem_mem hk)
  unfold gx gy
  rw [List.getD_eq_getElem?_getD, List.getElem?_eq_getElem hk]
  exact this

theorem Fine.bd {l : List (Int × Int)} (h : Fine l) {k : Nat} (hk : k < l.length) : (-40 ≤ gx l k ∧ gx l k ≤ 40) ∧ (-40 ≤ gy l k ∧ gy l k ≤ 40) := (pok_iff _ _).1 (h.pok hk)

theorem nx_lt {l : List (Int × Int)} {k : Nat} (h : k < l.length) : nx l k < l.length := Nat.mod_lt _ (by omega)

theorem Fine.prod {l : List (Int × Int)} (h : Fine l) {k j : Nat} (hk : k < l.length) (hj : j < l.length) : (-1600 ≤ gx l k * gy l j ∧ gx l k * gy l j ≤ 1600) ∧ (-1600 ≤ gy l k * gx l j ∧ gy l k * gx l j ≤ 1600) := by
  obtain ⟨⟨a1, a2⟩, a3, a4⟩ := h.bd hk
  obtain ⟨⟨b1, b2⟩, b3, b4⟩ := h.bd hj
  exact ⟨mul_bd _ _ 40 40 a1 a2 b3 b4, mul_bd _ _ 40 40 a3 a4 b1 b2⟩

theorem areaTo_bd {l : List (Int × Int)} (h : Fine l) : ∀ k, k ≤ l.length → -(3200 * (k : Int)) ≤ areaTo l k ∧ areaTo l k ≤ 3200 * (k : Int)
  | 0, _ => by simp [areaTo]
  | k + 1, hk => by
    have ih := areaTo_bd h k (by omega)
    have hp := h.prod (k := k) (j := nx l k) (by omega) (nx_lt (by omega))
    unfold areaTo
    omega

set_option maxRecDepth 100000 in
theorem area_any (A : Option Addr) (l : List (Int × Int)) (c : Nat) (w : World) (hp : RPts w A l) (hf : Fine l) :
    Calls Try.prog 36 #[.slice A l.length c] w fun e w' => e = .returned (.int .i64 (areaZ l)) ∧ Ext w w' := by
  have hn : l.length ≤ 1048576 := by have := hf.2; omega
  go_enter Try.func36, Try.ntmps36
  go_wp2_with (go_at_call 33; refine (wallsOf_any _ _ _ _ hp hn).mono ?_; rintro e w1 ⟨A', c', rfl, hr, hx⟩)
  go_loopw [3, 9] (fun s i wr => ∃ k : Nat, k ≤ l.length ∧ i = .int .i64 k ∧ Ext w wr ∧ RW wr A' l ∧ s = .int .i64 (areaTo l k)) (fun _ i _ => l.length - (intOf i).toNat)
  case atStart => exact ⟨0, Nat.zero_le _, rfl, hx, hr, rfl⟩
  case round =>
    obtain ⟨k, hk, rfl, hbl, hrr, rfl⟩ := hrel
    by_cases hlt : k < l.length
    · obtain ⟨g, rfl, hg, c1, c2, c3, c4⟩ := hrr k hlt
      obtain ⟨⟨p1, p2⟩, p3, p4⟩ := hf.prod hlt (nx_lt hlt)
      obtain ⟨t1, t2⟩ := areaTo_bd hf k hk
      have hten := hf.2
      go_wp2
      go_roundw
      case rel => exact ⟨k + 1, by omega, by go_num, by (repeat (first | exact Ext.refl _ | assumption | apply Ext.alloc | apply Ext.drew | apply Ext.drewN | (refine Ext.trans ?_ (by assumption)))), hrr.ext (by (repeat (first | exact Ext.refl _ | assumption | apply Ext.alloc | apply Ext.drew | apply Ext.drewN | (refine Ext.trans ?_ (by assumption))))), rfl⟩
      case measure => simp [intOf]; omega
    · have e : k = l.length := by omega
      have E := hide e
      clear e
      go_wp2
      go_ret
      exact ⟨ret_int (by rw [E.out]; rfl), hbl⟩

set_option maxRecDepth 100000 in
theorem sArea_any (A : Option Addr) (l : List (Int × Int)) (c : Nat) (w : World) (hp : RPts w A l) (hf : Fine l) :
    Calls Try.prog 58 #[.slice A l.length c] w fun e w' => e = .returned (.int .i64 (areaZ l)) ∧ Ext w w' := by
  have hn : l.length ≤ 1048576 := by have := hf.2; omega
  go_enter Try.func58, Try.ntmps58
  go_wp2
  go_loopw [3, 4] (fun s i wr => ∃ k : Nat, k ≤ l.length ∧ i = .int .i64 k ∧ Ext w wr ∧ s = .int .i64 (areaTo l k)) (fun _ i _ => l.length - (intOf i).toNat)
  case atStart => exact ⟨0, Nat.zero_le _, rfl, Ext.refl w, rfl⟩
  case round =>
    obtain ⟨k, hk, rfl, hbl, rfl⟩ := hrel
    by_cases hlt : k < l.length
    · have hnx : nx l k < l.length := Nat.mod_lt _ (by omega)
      obtain ⟨b, off, rfl, hz1, hx, hy⟩ := (hp.ext hbl).at_ hlt
      obtain ⟨b2, off2, hA2, hz2, hx2, hy2⟩ := (hp.ext hbl).at_ hnx
      injection hA2 with hA2
      injection hA2 with e1 e2 _
      subst e1 e2
      clear hz2
      obtain ⟨⟨p1, p2⟩, p3, p4⟩ := hf.prod hlt (nx_lt hlt)
      obtain ⟨t1, t2⟩ := areaTo_bd hf k hk
      have hten := hf.2
      unfold nx at hnx hx2 hy2
      obtain ⟨q1, q2, q3, q4, q5⟩ := idx_facts ((k : Int) + 1) (k + 1) l.length (by omega) (by omega) (by omega)
      clear q1 q2 q5
      go_wp2
      unfold nx at p1 p2 p3 p4
      have zz1 := wrap_in (gx l k * gy l ((k + 1) % l.length)) (by omega) (by omega)
      have zz2 := wrap_in (areaTo l k + gx l k * gy l ((k + 1) % l.length)) (by omega) (by omega)
      have zz3 := wrap_in (gy l k * gx l ((k + 1) % l.length)) (by omega) (by omega)
      have zz4 := wrap_in (areaTo l k + gx l k * gy l ((k + 1) % l.length) - gy l k * gx l ((k + 1) % l.length)) (by omega) (by omega)
      have hB : b < (wr.alloc (.cells #[.int .i64 (gx l ((k + 1) % l.length)), .int .i64 (gy l ((k + 1) % l.length))] 38)).heap.size := by simp; omega
      refine wp_flow_tail 19 (by kernel_rfl) (by kernel_rfl) (by kernel_rfl) (by kernel_rfl) (fun u => ⟨#[_, _, _, _, _, _, _, _, _, _, _, _, _, _, _, _, _, _, _, _, u 0, u 1, u 2, u 3, u 4, u 5, u 6, u 7, u 8, u 9, u 10, u 11, u 12, u 13, u 14, u 15, u 16, u 17, u 18, _], _⟩) (fun i => List.getD [_, _, _, _, _, _, _, _, _, _, _, _, _, _, _, _, _, _, _] i undef) [is ?v1_0, is ?v1_1, is ?v1_2, is ?v1_3, is ?v1_4, is ?v1_5, is ?v1_6, is ?v1_7, is ?v1_8, is ?v1_9, is ?v1_10, is ?v1_11, is ?v1_12, is ?v1_13, is ?v1_14, is ?v1_15, is ?v1_16, is ?v1_17, is ?v1_18] (fun w' => w'.cell? ⟨wr.heap.size, 0, none⟩ = some (.int .i64 (gx l ((k + 1) % l.length))) ∧ w'.cell? ⟨wr.heap.size, 1, none⟩ = some (.int .i64 (gy l ((k + 1) % l.length))) ∧ w'.cell? ⟨b, off + k * 2, none⟩ = some (.int .i64 (gx l k)) ∧ w'.cell? ⟨b, off + k * 2 + 1, none⟩ = some (.int .i64 (gy l k))) _ rfl ?hC1 ?hs1 ?hV1 ?fin1
      case hC1 => (intro w' hx; and_intros <;> (first | (refine (Eq.trans (hx.cells _ _ ?_) ?_) <;> first | assumption | omega | (simp; done) | (simp; omega) | (simp [go_sem, World.cell?_alloc_past, *]; done)) | (have hz := hx.size; first | omega | (simp at hz; omega))))
      case hs1 =>
        repeat' (first
          | exact FSteps.nil
          | refine FSteps.cons ?_ ?_
          | (refine FStep.off_ _ _ _ rfl rfl ?_ (fun _ => rfl) ?_; (focus (intro u w hd; simp [vOf, is, Region.binds] at hd; simp [hd])); (intro w'; exact rfl); done)
          | ((first
              | refine FStep.plain rfl ?_
              | (refine FStep.on_ _ _ _ rfl rfl ?_ ?_; (focus (intro u w hd; simp [vOf, is, Region.binds] at hd; simp [hd]))))
             intro u w hW hC hd K hK
             (try simp [vOf, is, Region.binds] at hd)
             simp only [upd, Nat.reduceEqDiff, if_true, if_false] at hK
             (try simp only [hd] at hK)
             go_simp
             (first
               | (refine hK _ _ ?_ ?_; (first | exact rfl); (repeat (first | exact Ext.refl _ | assumption | apply Ext.alloc | apply Ext.drew | apply Ext.drewN | (refine Ext.trans ?_ (by assumption))))))))
      case hV1 => (simp only [List.forall_mem_cons]; simp [stable_is])
      case fin1 =>
        intro u w2 hW2 hC2 hd
        simp only [AllV, is] at hd
        simp only [List.drop_succ_cons, List.drop_zero]
        simp only [hd]
        clear hd
        clear hC2 zz1 zz2 zz3 zz4 hx hy hx2 hy2
        go_wp2
        go_roundw
        case rel => exact ⟨k + 1, by omega, by go_num, by (repeat (first | exact Ext.refl _ | assumption | apply Ext.alloc | apply Ext.drew | apply Ext.drewN | (refine Ext.trans ?_ (by assumption)))), by rw [areaTo_succ]; unfold nx; congr 1; omega⟩
        case measure => simp [intOf]; omega
    · have e : k = l.length := by omega
      have E := hide e
      clear e
      go_wp2
      go_ret
      exact ⟨ret_int (by rw [E.out]; rfl), hbl⟩

end Go.Proofs.Ytanagdlikoinaaa

