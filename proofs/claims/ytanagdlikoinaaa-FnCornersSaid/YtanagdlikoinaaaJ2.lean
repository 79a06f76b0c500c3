/- 7 texts joined: Pts Area Near SPt Wall Cross Meet. -/
import Derived.Test.YtanagdlikoinaaaJ1
namespace Go.Proofs.Ytanagdlikoinaaa
open Go.RowKit

def allok (l : List (Int × Int)) : Bool := l.all fun p => pok p.1 p.2

theorem allok_take_succ (l : List (Int × Int)) (k : Nat) (h : k < l.length) : allok (l.take (k+1)) = (allok (l.take k) && pok (gx l k) (gy l k)) := by
  unfold allok gx gy
  rw [List.take_succ_eq_append_getElem h, List.all_append, List.getD_eq_getElem?_getD, List.getElem?_eq_getElem h]
  simp

theorem allok_false (l : List (Int × Int)) (k : Nat) (h : k < l.length) (hp : pok (gx l k) (gy l k) = false) : allok l = false := by
  unfold allok
  rw [List.all_eq_false]
  refine ⟨l[k], List.getElem_mem h, ?_⟩
  unfold gx gy at hp
  rw [List.getD_eq_getElem?_getD, List.getElem?_eq_getElem h] at hp
  simpa using hp

set_option maxHeartbeats 400000 in
theorem pointsOk_any (A : Option Addr) (l : List (Int × Int)) (c : Nat) (w : World) (hp : RPts w A l) (hn : l.length ≤ 1048576) :
    Calls Try.prog 37 #[.slice A l.length c] w fun e w' => e = .returned (.bool (allok l)) ∧ Ext w w' := by
  go_enter Try.func37, Try.ntmps37
  go_wp2
  go_loopw [7] (fun i wr => ∃ k : Nat, k ≤ l.length ∧ i = .int .i64 k ∧ Ext w wr ∧ Hid (allok (l.take k) = true)) (fun i _ => l.length - (intOf i).toNat)
  case atStart => exact ⟨0, Nat.zero_le _, rfl, Ext.refl _, rfl⟩
  case round =>
    obtain ⟨k, hk, rfl, hbl, HOK⟩ := hrel
    by_cases hlt : k < l.length
    · obtain ⟨b, off, rfl, _, hx, hy⟩ := (hp.ext hbl).at_ hlt
      by_cases ho : pok (gx l k) (gy l k) = true
      · have HO := hide ho
        go_wp2_with ((go_at_call 39; refine (pok_any _ _ _).mono ?_; rintro e w1 ⟨rfl, hb⟩))
        go_roundw
        case rel => exact ⟨k + 1, by omega, by go_num, by (repeat (first | exact Ext.refl _ | assumption | apply Ext.alloc | apply Ext.drew | apply Ext.drewN | (refine Ext.trans ?_ (by assumption)))), by unfold Hid; rw [allok_take_succ _ _ hlt, HOK.out, HO.out]; rfl⟩
        case measure => simp [intOf]; omega
      · have hf : pok (gx l k) (gy l k) = false := by simpa using ho
        have HF := hide hf
        go_wp2_with ((go_at_call 39; refine (pok_any _ _ _).mono ?_; rintro e w1 ⟨rfl, hb⟩))
        go_ret
        exact ⟨by rw [allok_false _ _ hlt HF.out]; rfl, by (repeat (first | exact Ext.refl _ | assumption | apply Ext.alloc | apply Ext.drew | apply Ext.drewN | (refine Ext.trans ?_ (by assumption))))⟩
    · go_wp2
      go_ret
      have e : l.take k = l := List.take_of_length_le (by omega)
      rw [e] at HOK
      exact ⟨by rw [HOK.out]; rfl, by assumption⟩

theorem pointsOk2_any (b : Nat) (ax ay bx by_ : Int) (w : World) (hb : b < w.heap.size) (hc : w.cell? ⟨b, 0, none⟩ = some (.int .i64 ax) ∧ w.cell? ⟨b, 1, none⟩ = some (.int .i64 ay) ∧ w.cell? ⟨b, 2, none⟩ = some (.int .i64 bx) ∧ w.cell? ⟨b, 3, none⟩ = some (.int .i64 by_)) :
    Calls Try.prog 37 #[.slice (some ⟨b, 0, none⟩) 2 2] w fun e w' => e = .returned (.bool (pok2 ax ay bx by_)) ∧ Ext w w' := by
  have hp : PtsAt w b 0 [(ax, ay), (bx, by_)] := by
    obtain ⟨h0, h1, h2, h3⟩ := hc
    intro k hk
    match k, hk with
    | 0, _ => exact ⟨by simpa [gx] using h0, by simpa [gy] using h1⟩
    | 1, _ => exact ⟨by simpa [gx] using h2, by simpa [gy] using h3⟩
  refine (pointsOk_any (some ⟨b, 0, none⟩) [(ax, ay), (bx, by_)] 2 _ (fun _ => ⟨_, _, rfl, Nat.zero_le _, hb, hp⟩) (by simp)).mono ?_
  rintro e w1 ⟨rfl, hx⟩
  exact ⟨by simp [allok, pok2], hx⟩

theorem pointsOk3_any (b : Nat) (ax ay bx by_ cx cy : Int) (w : World) (hb : b < w.heap.size) (hc : w.cell? ⟨b, 0, none⟩ = some (.int .i64 ax) ∧ w.cell? ⟨b, 1, none⟩ = some (.int .i64 ay) ∧ w.cell? ⟨b, 2, none⟩ = some (.int .i64 bx) ∧ w.cell? ⟨b, 3, none⟩ = some (.int .i64 by_) ∧ w.cell? ⟨b, 4, none⟩ = some (.int .i64 cx) ∧ w.cell? ⟨b, 5, none⟩ = some (.int .i64 cy)) :
    Calls Try.prog 37 #[.slice (some ⟨b, 0, none⟩) 3 3] w fun e w' => e = .returned (.bool (pok3 ax ay bx by_ cx cy)) ∧ Ext w w' := by
  have hp : PtsAt w b 0 [(ax, ay), (bx, by_), (cx, cy)] := by
    obtain ⟨h0, h1, h2, h3, h4, h5⟩ := hc
    intro k hk
    match k, hk with
    | 0, _ => exact ⟨by simpa [gx] using h0, by simpa [gy] using h1⟩
    | 1, _ => exact ⟨by simpa [gx] using h2, by simpa [gy] using h3⟩
    | 2, _ => exact ⟨by simpa [gx] using h4, by simpa [gy] using h5⟩
  refine (pointsOk_any (some ⟨b, 0, none⟩) [(ax, ay), (bx, by_), (cx, cy)] 3 _ (fun _ => ⟨_, _, rfl, Nat.zero_le _, hb, hp⟩) (by simp)).mono ?_
  rintro e w1 ⟨rfl, hx⟩
  exact ⟨by simp [allok, pok3], hx⟩

end Go.Proofs.Ytanagdlikoinaaa

namespace Go.Proofs.Ytanagdlikoinaaa
open Go.RowKit

/-- the first k terms of twice the area -/
def areaTo (l : List (Int × Int)) : Nat → Int
  | 0 => 0
  | k + 1 => areaTo l k + (gx l k * gy l (nx l k) - gy l k * gx l (nx l k))
theorem areaTo_succ (l : List (Int × Int)) (k : Nat) : areaTo l (k + 1) = areaTo l k + (gx l k * gy l (nx l k) - gy l k * gx l (nx l k)) := rfl
/-- twice the area of a polygon, with a sign -/
def areaZ (l : List (Int × Int)) : Int := areaTo l l.length

/-- all points are valid, and there are at most ten -/
def Fine (l : List (Int × Int)) : Prop := allok l = true ∧ l.length ≤ 10

theorem Fine.pok {l : List (Int × Int)} (h : Fine l) {k : Nat} (hk : k < l.length) : pok (gx l k) (gy l k) = true := by
  have := List.all_eq_true.1 h.1 l[k] (List.getElem_mem hk)
  unfold gx gy
  rw [List.getD_eq_getElem?_getD, List.getElem?_eq_getElem hk]
  exact this

theorem Fine.bd {l : List (Int × Int)} (h : Fine l) {k : Nat} (hk : k < l.length) : (-40 ≤ gx l k ∧ gx l k ≤ 40) ∧ (-40 ≤ gy l k ∧ gy l k ≤ 40) := (pok_iff _ _).1 (h.pok hk)

theorem nx_lt {l : List (Int × Int)} {k : Nat} (h : k < l.length) : nx l k < l.length := Nat.mod_lt _ (by omega)

theorem Fine.prod {l : List (Int × Int)} (h : Fine l) {k j : Nat} (hk : k < l.length) (hj : j < l.length) : (-1600 ≤ gx l k * gy l j ∧ gx l k * gy l j ≤ 1600) ∧ (-1600 ≤ gy l k * gx l j ∧ gy l k * gx l j ≤ 1600) := by
  obtain ⟨⟨a1, a2⟩, a3, a4⟩ := h.bd hk
  obtain ⟨⟨b1, b2⟩, b3, b4⟩ := h.bd hj
  exact ⟨mul_bd _ _ 40 40 a1 a2 b3 b4, mul_bd _ _ 40 40 a3 a4 b1 b2⟩

theorem areaTo_bd {l : List (Int × Int)} (h : Fine l) : ∀ k, k ≤ l.length → -(3200 * (k : Int)) ≤ areaTo l k ∧ areaTo l k ≤ 3200 * (k : Int)
  | 0, _ => by simp [areaTo]
  | k + 1, hk => by
    have ih := areaTo_bd h k (by omega)
    have hp := h.prod (k := k) (j := nx l k) (by omega) (nx_lt (by omega))
    unfold areaTo
    omega

set_option maxRecDepth 100000 in
theorem area_any (A : Option Addr) (l : List (Int × Int)) (c : Nat) (w : World) (hp : RPts w A l) (hf : Fine l) :
    Calls Try.prog 36 #[.slice A l.length c] w fun e w' => e = .returned (.int .i64 (areaZ l)) ∧ Ext w w' := by
  have hn : l.length ≤ 1048576 := by have := hf.2; omega
  go_enter Try.func36, Try.ntmps36
  go_wp2_with (go_at_call 33; refine (wallsOf_any _ _ _ _ hp hn).mono ?_; rintro e w1 ⟨A', c', rfl, hr, hx⟩)
  go_loopw [3, 9] (fun s i wr => ∃ k : Nat, k ≤ l.length ∧ i = .int .i64 k ∧ Ext w wr ∧ RW wr A' l ∧ s = .int .i64 (areaTo l k)) (fun _ i _ => l.length - (intOf i).toNat)
  case atStart => exact ⟨0, Nat.zero_le _, rfl, hx, hr, rfl⟩
  case round =>
    obtain ⟨k, hk, rfl, hbl, hrr, rfl⟩ := hrel
    by_cases hlt : k < l.length
    · obtain ⟨g, rfl, hg, c1, c2, c3, c4⟩ := hrr k hlt
      obtain ⟨⟨p1, p2⟩, p3, p4⟩ := hf.prod hlt (nx_lt hlt)
      obtain ⟨t1, t2⟩ := areaTo_bd hf k hk
      have hten := hf.2
      go_wp2
      go_roundw
      case rel => exact ⟨k + 1, by omega, by go_num, by (repeat (first | exact Ext.refl _ | assumption | apply Ext.alloc | apply Ext.drew | apply Ext.drewN | (refine Ext.trans ?_ (by assumption)))), hrr.ext (by (repeat (first | exact Ext.refl _ | assumption | apply Ext.alloc | apply Ext.drew | apply Ext.drewN | (refine Ext.trans ?_ (by assumption))))), rfl⟩
      case measure => simp [intOf]; omega
    · have e : k = l.length := by omega
      have E := hide e
      clear e
      go_wp2
      go_ret
      exact ⟨ret_int (by rw [E.out]; rfl), hbl⟩

set_option maxRecDepth 100000 in
theorem sArea_any (A : Option Addr) (l : List (Int × Int)) (c : Nat) (w : World) (hp : RPts w A l) (hf : Fine l) :
    Calls Try.prog 58 #[.slice A l.length c] w fun e w' => e = .returned (.int .i64 (areaZ l)) ∧ Ext w w' := by
  have hn : l.length ≤ 1048576 := by have := hf.2; omega
  go_enter Try.func58, Try.ntmps58
  go_wp2
  go_loopw [3, 4] (fun s i wr => ∃ k : Nat, k ≤ l.length ∧ i = .int .i64 k ∧ Ext w wr ∧ s = .int .i64 (areaTo l k)) (fun _ i _ => l.length - (intOf i).toNat)
  case atStart => exact ⟨0, Nat.zero_le _, rfl, Ext.refl w, rfl⟩
  case round =>
    obtain ⟨k, hk, rfl, hbl, rfl⟩ := hrel
    by_cases hlt : k < l.length
    · have hnx : nx l k < l.length := Nat.mod_lt _ (by omega)
      obtain ⟨b, off, rfl, hz1, hx, hy⟩ := (hp.ext hbl).at_ hlt
      obtain ⟨b2, off2, hA2, hz2, hx2, hy2⟩ := (hp.ext hbl).at_ hnx
      injection hA2 with hA2
      injection hA2 with e1 e2 _
      subst e1 e2
      clear hz2
      obtain ⟨⟨p1, p2⟩, p3, p4⟩ := hf.prod hlt (nx_lt hlt)
      obtain ⟨t1, t2⟩ := areaTo_bd hf k hk
      have hten := hf.2
      unfold nx at hnx hx2 hy2
      obtain ⟨q1, q2, q3, q4, q5⟩ := idx_facts ((k : Int) + 1) (k + 1) l.length (by omega) (by omega) (by omega)
      clear q1 q2 q5
      go_wp2
      unfold nx at p1 p2 p3 p4
      have zz1 := wrap_in (gx l k * gy l ((k + 1) % l.length)) (by omega) (by omega)
      have zz2 := wrap_in (areaTo l k + gx l k * gy l ((k + 1) % l.length)) (by omega) (by omega)
      have zz3 := wrap_in (gy l k * gx l ((k + 1) % l.length)) (by omega) (by omega)
      have zz4 := wrap_in (areaTo l k + gx l k * gy l ((k + 1) % l.length) - gy l k * gx l ((k + 1) % l.length)) (by omega) (by omega)
      have hB : b < (wr.alloc (.cells #[.int .i64 (gx l ((k + 1) % l.length)), .int .i64 (gy l ((k + 1) % l.length))] 38)).heap.size := by simp; omega
      refine wp_flow_tail 19 (by kernel_rfl) (by kernel_rfl) (by kernel_rfl) (by kernel_rfl) (fun u => ⟨#[_, _, _, _, _, _, _, _, _, _, _, _, _, _, _, _, _, _, _, _, u 0, u 1, u 2, u 3, u 4, u 5, u 6, u 7, u 8, u 9, u 10, u 11, u 12, u 13, u 14, u 15, u 16, u 17, u 18, _], _⟩) (fun i => List.getD [_, _, _, _, _, _, _, _, _, _, _, _, _, _, _, _, _, _, _] i undef) [is ?v1_0, is ?v1_1, is ?v1_2, is ?v1_3, is ?v1_4, is ?v1_5, is ?v1_6, is ?v1_7, is ?v1_8, is ?v1_9, is ?v1_10, is ?v1_11, is ?v1_12, is ?v1_13, is ?v1_14, is ?v1_15, is ?v1_16, is ?v1_17, is ?v1_18] (fun w' => w'.cell? ⟨wr.heap.size, 0, none⟩ = some (.int .i64 (gx l ((k + 1) % l.length))) ∧ w'.cell? ⟨wr.heap.size, 1, none⟩ = some (.int .i64 (gy l ((k + 1) % l.length))) ∧ w'.cell? ⟨b, off + k * 2, none⟩ = some (.int .i64 (gx l k)) ∧ w'.cell? ⟨b, off + k * 2 + 1, none⟩ = some (.int .i64 (gy l k))) _ rfl ?hC1 ?hs1 ?hV1 ?fin1
      case hC1 => (intro w' hx; and_intros <;> (first | (refine (Eq.trans (hx.cells _ _ ?_) ?_) <;> first | assumption | omega | (simp; done) | (simp; omega) | (simp [go_sem, World.cell?_alloc_past, *]; done)) | (have hz := hx.size; first | omega | (simp at hz; omega))))
      case hs1 =>
        repeat' (first
          | exact FSteps.nil
          | refine FSteps.cons ?_ ?_
          | (refine FStep.off_ _ _ _ rfl rfl ?_ (fun _ => rfl) ?_; (focus (intro u w hd; simp [vOf, is, Region.binds] at hd; simp [hd])); (intro w'; exact rfl); done)
          | ((first
              | refine FStep.plain rfl ?_
              | (refine FStep.on_ _ _ _ rfl rfl ?_ ?_; (focus (intro u w hd; simp [vOf, is, Region.binds] at hd; simp [hd]))))
             intro u w hW hC hd K hK
             (try simp [vOf, is, Region.binds] at hd)
             simp only [upd, Nat.reduceEqDiff, if_true, if_false] at hK
             (try simp only [hd] at hK)
             go_simp
             (first
               | (refine hK _ _ ?_ ?_; (first | exact rfl); (repeat (first | exact Ext.refl _ | assumption | apply Ext.alloc | apply Ext.drew | apply Ext.drewN | (refine Ext.trans ?_ (by assumption))))))))
      case hV1 => (simp only [List.forall_mem_cons]; simp [stable_is])
      case fin1 =>
        intro u w2 hW2 hC2 hd
        simp only [AllV, is] at hd
        simp only [List.drop_succ_cons, List.drop_zero]
        simp only [hd]
        clear hd
        clear hC2 zz1 zz2 zz3 zz4 hx hy hx2 hy2
        go_wp2
        go_roundw
        case rel => exact ⟨k + 1, by omega, by go_num, by (repeat (first | exact Ext.refl _ | assumption | apply Ext.alloc | apply Ext.drew | apply Ext.drewN | (refine Ext.trans ?_ (by assumption)))), by rw [areaTo_succ]; unfold nx; congr 1; omega⟩
        case measure => simp [intOf]; omega
    · have e : k = l.length := by omega
      have E := hide e
      clear e
      go_wp2
      go_ret
      exact ⟨ret_int (by rw [E.out]; rfl), hbl⟩

end Go.Proofs.Ytanagdlikoinaaa

namespace Go.Proofs.Ytanagdlikoinaaa
open Go.RowKit

/-- a slice of three points in a block of its own -/
def SL3 (ax ay bx by_ cx cy : Int) (v : Value) (w : World) : Prop := ∃ b, v = .slice (some ⟨b, 0, none⟩) 3 3 ∧ b < w.heap.size ∧ w.cell? ⟨b, 0, none⟩ = some (.int .i64 ax) ∧ w.cell? ⟨b, 1, none⟩ = some (.int .i64 ay) ∧ w.cell? ⟨b, 2, none⟩ = some (.int .i64 bx) ∧ w.cell? ⟨b, 3, none⟩ = some (.int .i64 by_) ∧ w.cell? ⟨b, 4, none⟩ = some (.int .i64 cx) ∧ w.cell? ⟨b, 5, none⟩ = some (.int .i64 cy)

theorem SL3_stable (ax ay bx by_ cx cy : Int) : Stable (SL3 ax ay bx by_ cx cy) := by
  rintro v w w' ⟨b, rfl, hb, h⟩ hx
  refine ⟨b, rfl, Nat.lt_of_lt_of_le hb hx.size, ?_⟩
  simp only [hx.cells b _ hb]
  exact h

theorem SL3_mk {ax ay bx by_ cx cy : Int} (b : Nat) (w : World) (h : b < w.heap.size) (hc : w.cell? ⟨b, 0, none⟩ = some (.int .i64 ax) ∧ w.cell? ⟨b, 1, none⟩ = some (.int .i64 ay) ∧ w.cell? ⟨b, 2, none⟩ = some (.int .i64 bx) ∧ w.cell? ⟨b, 3, none⟩ = some (.int .i64 by_) ∧ w.cell? ⟨b, 4, none⟩ = some (.int .i64 cx) ∧ w.cell? ⟨b, 5, none⟩ = some (.int .i64 cy)) : SL3 ax ay bx by_ cx cy (.slice (some ⟨b, 0, none⟩) 3 3) w := ⟨b, rfl, h, hc⟩

theorem pointsOkS3 {ax ay bx by_ cx cy : Int} {v : Value} {w : World} (h : SL3 ax ay bx by_ cx cy v w) :
    Calls Try.prog 37 #[v] w fun e w' => e = .returned (.bool (pok3 ax ay bx by_ cx cy)) ∧ Ext w w' := by
  obtain ⟨b, rfl, hb, hc⟩ := h
  exact pointsOk3_any _ _ _ _ _ _ _ _ hb hc

end Go.Proofs.Ytanagdlikoinaaa

namespace Go.Proofs.Ytanagdlikoinaaa
open Go.RowKit

theorem sIsBetween_any (ax ay bx by_ cx cy : Int) (w : World) :
    Calls Try.prog 63 #[.agg #[.int .i64 ax, .int .i64 ay], .agg #[.int .i64 bx, .int .i64 by_], .agg #[.int .i64 cx, .int .i64 cy]] w fun e w' => e = .returned (.bool (BetV ax ay bx by_ cx cy)) ∧ Ext w w' := by
  have HB : Hid (∀ w', Ext (((w.alloc (.cells #[.int .i64 ax, .int .i64 ay] 38)).alloc (.cells #[.int .i64 bx, .int .i64 by_] 38)).alloc (.cells #[.int .i64 cx, .int .i64 cy] 38)) w' → w'.cell? ⟨w.heap.size, 0, none⟩ = some (.int .i64 ax) ∧ w'.cell? ⟨w.heap.size, 1, none⟩ = some (.int .i64 ay) ∧ w'.cell? ⟨w.heap.size + 1, 0, none⟩ = some (.int .i64 bx) ∧ w'.cell? ⟨w.heap.size + 1, 1, none⟩ = some (.int .i64 by_) ∧ w'.cell? ⟨w.heap.size + 1 + 1, 0, none⟩ = some (.int .i64 cx) ∧ w'.cell? ⟨w.heap.size + 1 + 1, 1, none⟩ = some (.int .i64 cy)) := fun w' hx => by
    and_intros <;> (((first | rw [hx.cells _ _ (by first | (simp; done) | (simp; omega))] | rw [hx.frozens _ _ (by first | (simp; done) | (simp; omega))]); (first | (simp [go_sem]; done) | (simp [go_sem, World.cell?_alloc_past]; done) | (simp [go_sem, World.frozen?]; done))))
  unfold BetV pok3
  cases ha : pok ax ay
  · go_enter Try.func63, Try.ntmps63
    go_wp2_with ((go_at_call 55; refine (spok_any _ _ _).mono ?_; rintro e w1 ⟨rfl, hb⟩; have hcc := HB.out w1 (by (repeat (first | exact Ext.refl _ | assumption | apply Ext.alloc | apply Ext.drew | apply Ext.drewN | (refine Ext.trans ?_ (by assumption)))))))
    go_ret
    exact ⟨rfl, by (repeat (first | exact Ext.refl _ | assumption | apply Ext.alloc | apply Ext.drew | apply Ext.drewN | (refine Ext.trans ?_ (by assumption))))⟩
  · cases hb' : pok bx by_
    · go_enter Try.func63, Try.ntmps63
      go_wp2_with ((go_at_call 55; refine (spok_any _ _ _).mono ?_; rintro e w1 ⟨rfl, hb⟩; have hcc := HB.out w1 (by (repeat (first | exact Ext.refl _ | assumption | apply Ext.alloc | apply Ext.drew | apply Ext.drewN | (refine Ext.trans ?_ (by assumption)))))))
      go_ret
      exact ⟨rfl, by (repeat (first | exact Ext.refl _ | assumption | apply Ext.alloc | apply Ext.drew | apply Ext.drewN | (refine Ext.trans ?_ (by assumption))))⟩
    · cases hc' : pok cx cy
      all_goals
        go_enter Try.func63, Try.ntmps63
        go_wp2_with (first | (go_at_call 55; refine (spok_any _ _ _).mono ?_; rintro e w1 ⟨rfl, hb⟩; have hcc := HB.out w1 (by (repeat (first | exact Ext.refl _ | assumption | apply Ext.alloc | apply Ext.drew | apply Ext.drewN | (refine Ext.trans ?_ (by assumption)))))) | (go_at_call 65; refine (sbet_any _ _ _ _ _ _ _).mono ?_; rintro e w1 ⟨rfl, hb⟩; have hcc := HB.out w1 (by (repeat (first | exact Ext.refl _ | assumption | apply Ext.alloc | apply Ext.drew | apply Ext.drewN | (refine Ext.trans ?_ (by assumption)))))))
        go_ret
        exact ⟨rfl, by (repeat (first | exact Ext.refl _ | assumption | apply Ext.alloc | apply Ext.drew | apply Ext.drewN | (refine Ext.trans ?_ (by assumption))))⟩

end Go.Proofs.Ytanagdlikoinaaa

namespace Go.Proofs.Ytanagdlikoinaaa
open Go.RowKit

theorem WallOk_any (a b c d : Int) (w : World) :
    Calls Try.prog 51 #[.agg #[.int .i64 a, .int .i64 b, .int .i64 c, .int .i64 d]] w fun e w' => e = .returned (.bool (wok a b c d)) ∧ Ext w w' := by
  have HB : Hid (∀ w', Ext (w.alloc (.cells #[.int .i64 a, .int .i64 b, .int .i64 c, .int .i64 d] 51)) w' → w'.cell? ⟨w.heap.size, 0, none⟩ = some (.int .i64 a) ∧ w'.cell? ⟨w.heap.size, 1, none⟩ = some (.int .i64 b) ∧ w'.cell? ⟨w.heap.size, 2, none⟩ = some (.int .i64 c) ∧ w'.cell? ⟨w.heap.size, 3, none⟩ = some (.int .i64 d)) := fun w' hx => by
    and_intros <;> (((first | rw [hx.cells _ _ (by first | (simp; done) | (simp; omega))] | rw [hx.frozens _ _ (by first | (simp; done) | (simp; omega))]); (first | (simp [go_sem]; done) | (simp [go_sem, World.cell?_alloc_past]; done) | (simp [go_sem, World.frozen?]; done))))
  unfold wok neB
  cases hp : pok2 a b c d
  · go_enter Try.func51, Try.ntmps51
    go_wp2_with ((go_at_call 37; refine (pointsOk2_any _ a b c d _ (by simp) (by simp [go_sem])).mono ?_; rintro e w1 ⟨rfl, hb⟩; have hcc := HB.out w1 (by (repeat (first | exact Ext.refl _ | assumption | apply Ext.alloc | apply Ext.drew | apply Ext.drewN | (refine Ext.trans ?_ (by assumption)))))))
    go_ret
    exact ⟨rfl, by (repeat (first | exact Ext.refl _ | assumption | apply Ext.alloc | apply Ext.drew | apply Ext.drewN | (refine Ext.trans ?_ (by assumption))))⟩
  · go_enter Try.func51, Try.ntmps51
    go_wp2_with ((go_at_call 37; refine (pointsOk2_any _ a b c d _ (by simp) (by simp [go_sem])).mono ?_; rintro e w1 ⟨rfl, hb⟩; have hcc := HB.out w1 (by (repeat (first | exact Ext.refl _ | assumption | apply Ext.alloc | apply Ext.drew | apply Ext.drewN | (refine Ext.trans ?_ (by assumption)))))))
    all_goals (go_ret; exact ⟨ret_bool (by simp [*]), by (repeat (first | exact Ext.refl _ | assumption | apply Ext.alloc | apply Ext.drew | apply Ext.drewN | (refine Ext.trans ?_ (by assumption))))⟩)

theorem sWallOk_any (a b c d : Int) (w : World) :
    Calls Try.prog 59 #[.agg #[.int .i64 a, .int .i64 b, .int .i64 c, .int .i64 d]] w fun e w' => e = .returned (.bool (wok a b c d)) ∧ Ext w w' := by
  have HB : Hid (∀ w', Ext (w.alloc (.cells #[.int .i64 a, .int .i64 b, .int .i64 c, .int .i64 d] 51)) w' → w'.cell? ⟨w.heap.size, 0, none⟩ = some (.int .i64 a) ∧ w'.cell? ⟨w.heap.size, 1, none⟩ = some (.int .i64 b) ∧ w'.cell? ⟨w.heap.size, 2, none⟩ = some (.int .i64 c) ∧ w'.cell? ⟨w.heap.size, 3, none⟩ = some (.int .i64 d)) := fun w' hx => by
    and_intros <;> (((first | rw [hx.cells _ _ (by first | (simp; done) | (simp; omega))] | rw [hx.frozens _ _ (by first | (simp; done) | (simp; omega))]); (first | (simp [go_sem]; done) | (simp [go_sem, World.cell?_alloc_past]; done) | (simp [go_sem, World.frozen?]; done))))
  unfold wok neB pok2
  cases h1 : pok a b
  · go_enter Try.func59, Try.ntmps59
    go_wp2_with ((go_at_call 55; refine (spok_any _ _ _).mono ?_; rintro e w1 ⟨rfl, hb⟩; have hcc := HB.out w1 (by (repeat (first | exact Ext.refl _ | assumption | apply Ext.alloc | apply Ext.drew | apply Ext.drewN | (refine Ext.trans ?_ (by assumption)))))))
    all_goals (go_ret; exact ⟨ret_bool (by simp [*]), by (repeat (first | exact Ext.refl _ | assumption | apply Ext.alloc | apply Ext.drew | apply Ext.drewN | (refine Ext.trans ?_ (by assumption))))⟩)
  · cases h2 : pok c d
    all_goals
      go_enter Try.func59, Try.ntmps59
      go_wp2_with ((go_at_call 55; refine (spok_any _ _ _).mono ?_; rintro e w1 ⟨rfl, hb⟩; have hcc := HB.out w1 (by (repeat (first | exact Ext.refl _ | assumption | apply Ext.alloc | apply Ext.drew | apply Ext.drewN | (refine Ext.trans ?_ (by assumption)))))))
      all_goals (go_ret; exact ⟨ret_bool (by simp [*]), by (repeat (first | exact Ext.refl _ | assumption | apply Ext.alloc | apply Ext.drew | apply Ext.drewN | (refine Ext.trans ?_ (by assumption))))⟩)

end Go.Proofs.Ytanagdlikoinaaa

namespace Go.Proofs.Ytanagdlikoinaaa
open Go.RowKit

def sgn (x : Int) : Int := if 0 < x then 1 else if x < 0 then -1 else 0

theorem sgn_mul_bd (a b : Int) : -1 ≤ sgn a * sgn b ∧ sgn a * sgn b ≤ 1 := by
  unfold sgn
  split <;> split <;> (try split) <;> (try split) <;> simp

theorem sgn_mul_wrap (a b : Int) : IntKind.i64.wrap (sgn a * sgn b) = sgn a * sgn b := by
  have := sgn_mul_bd a b
  exact wrap_in _ (by omega) (by omega)

theorem sign_any (n : Int) (w : World) : Calls Try.prog 52 #[.int .i64 n] w fun e w' => e = .returned (.int .i64 (sgn n)) ∧ w = w' := by
  go_enter Try.func52, Try.ntmps52
  go_wp2
  all_goals (go_ret; refine ⟨ret_int ?_, rfl⟩; unfold sgn; (repeat' split) <;> omega)

theorem l03Sign_any (n : Int) (w : World) : Calls Try.prog 64 #[.int .i64 n] w fun e w' => e = .returned (.int .i64 (sgn n)) ∧ w = w' := by
  go_enter Try.func64, Try.ntmps64
  go_wp2
  all_goals (go_ret; refine ⟨ret_int ?_, rfl⟩; unfold sgn; (repeat' split) <;> omega)

/-- do the ends of the second wall lie on two sides of the first -/
def sideB (ax ay bx by_ cx cy dx dy : Int) : Bool := decide (sgn (turnW ax ay bx by_ cx cy) * sgn (turnW ax ay bx by_ dx dy) < 0)
/-- the walls ab and cd cross -/
def crossB (ax ay bx by_ cx cy dx dy : Int) : Bool := sideB cx cy dx dy ax ay bx by_ && sideB ax ay bx by_ cx cy dx dy

set_option maxRecDepth 100000 in
set_option maxHeartbeats 1600000 in
theorem crosses_no (ax ay bx by_ cx cy dx dy : Int) (w : World) (h : sideB cx cy dx dy ax ay bx by_ = false) :
    Calls Try.prog 42 #[.agg #[.int .i64 ax, .int .i64 ay, .int .i64 bx, .int .i64 by_], .agg #[.int .i64 cx, .int .i64 cy, .int .i64 dx, .int .i64 dy]] w fun e w' => e = .returned (.bool false) ∧ Ext w w' := by
  have HB : Hid (∀ w', Ext ((w.alloc (.cells #[.int .i64 ax, .int .i64 ay, .int .i64 bx, .int .i64 by_] 51)).alloc (.cells #[.int .i64 cx, .int .i64 cy, .int .i64 dx, .int .i64 dy] 51)) w' → w'.cell? ⟨w.heap.size, 0, none⟩ = some (.int .i64 ax) ∧ w'.cell? ⟨w.heap.size, 1, none⟩ = some (.int .i64 ay) ∧ w'.cell? ⟨w.heap.size, 2, none⟩ = some (.int .i64 bx) ∧ w'.cell? ⟨w.heap.size, 3, none⟩ = some (.int .i64 by_) ∧ w'.cell? ⟨w.heap.size + 1, 0, none⟩ = some (.int .i64 cx) ∧ w'.cell? ⟨w.heap.size + 1, 1, none⟩ = some (.int .i64 cy) ∧ w'.cell? ⟨w.heap.size + 1, 2, none⟩ = some (.int .i64 dx) ∧ w'.cell? ⟨w.heap.size + 1, 3, none⟩ = some (.int .i64 dy)) := fun w' hx => by
    and_intros <;> (((first | rw [hx.cells _ _ (by first | (simp; done) | (simp; omega))] | rw [hx.frozens _ _ (by first | (simp; done) | (simp; omega))]); (first | (simp [go_sem]; done) | (simp [go_sem, World.cell?_alloc_past]; done) | (simp [go_sem, World.frozen?]; done))))
  unfold sideB at h
  have q1 := sgn_mul_wrap (turnW cx cy dx dy ax ay) (turnW cx cy dx dy bx by_)
  go_enter Try.func42, Try.ntmps42
  go_wp2
  refine wp_flow (by kernel_rfl) (by kernel_rfl) (fun u => ⟨#[_, _, _, _, u 38, u 0, u 1, u 2, u 3, u 4, u 5, u 6, u 7, u 8, u 9, u 10, u 11, u 12, u 13, u 14, u 15, u 16, u 17, u 18, u 19, u 20, u 21, u 22, u 23, u 24, u 25, u 26, u 27, u 28, u 29, u 30, u 31, u 32, u 33, u 34, u 35, u 36, u 37], _⟩) (fun i => List.getD [_, _, _, _, _, _, _, _, _, _, _, _, _, _, _, _, _, _, _, _, _, _, _, _, _, _, _, _, _, _, _, _, _, _, _, _, _, _, _] i undef) [is ?v1_0, is ?v1_1, is ?v1_2, is ?v1_3, is ?v1_4, is ?v1_5, is ?v1_6, is ?v1_7, is ?v1_8, is ?v1_9, is ?v1_10, is ?v1_11, is ?v1_12, is ?v1_13, is ?v1_14, is ?v1_15, is ?v1_16, is ?v1_17, is ?v1_18, is ?v1_19, is ?v1_20, is ?v1_21, is ?v1_22, is ?v1_23, is ?v1_24, is ?v1_25, is ?v1_26, is ?v1_27, is ?v1_28, is ?v1_29, is ?v1_30, is ?v1_31, is ?v1_32, is ?v1_33, is ?v1_34, is ?v1_35, is ?v1_36, is ?v1_37, is ?v1_38] (fun w' => w'.cell? ⟨w.heap.size, 0, none⟩ = some (.int .i64 ax) ∧ w'.cell? ⟨w.heap.size, 1, none⟩ = some (.int .i64 ay) ∧ w'.cell? ⟨w.heap.size, 2, none⟩ = some (.int .i64 bx) ∧ w'.cell? ⟨w.heap.size, 3, none⟩ = some (.int .i64 by_) ∧ w'.cell? ⟨w.heap.size + 1, 0, none⟩ = some (.int .i64 cx) ∧ w'.cell? ⟨w.heap.size + 1, 1, none⟩ = some (.int .i64 cy) ∧ w'.cell? ⟨w.heap.size + 1, 2, none⟩ = some (.int .i64 dx) ∧ w'.cell? ⟨w.heap.size + 1, 3, none⟩ = some (.int .i64 dy)) _ rfl ?hC1 ?hs1 ?hV1 ?fin1
  case hC1 => exact HB.out
  case hs1 =>
    repeat' (first
      | exact FSteps.nil
      | refine FSteps.cons ?_ ?_
      | (refine FStep.off_ _ _ _ rfl rfl ?_ (fun _ => rfl) ?_; (focus (intro u w hd; simp [vOf, is, Region.binds] at hd; simp [hd])); (intro w'; exact rfl); done)
      | ((first
          | refine FStep.plain rfl ?_
          | (refine FStep.on_ _ _ _ rfl rfl ?_ ?_; (focus (intro u w hd; simp [vOf, is, Region.binds] at hd; simp [hd]))))
         intro u w hW hC hd K hK
         (try simp [vOf, is, Region.binds] at hd)
         simp only [upd, Nat.reduceEqDiff, if_true, if_false] at hK
         (try simp only [hd] at hK)
         go_simp
         (first
           | (refine hK _ _ ?_ ?_; (first | exact rfl); (repeat (first | exact Ext.refl _ | assumption | apply Ext.alloc | apply Ext.drew | apply Ext.drewN | (refine Ext.trans ?_ (by assumption)))))
           | (go_at_call 49; refine (turn_any _ _ _ _ _ _ _).mono ?_; rintro e w1 ⟨rfl, hb⟩; (try go_simp); refine hK _ _ ?_ ?_; (first | exact rfl); (repeat (first | exact Ext.refl _ | assumption | apply Ext.alloc | apply Ext.drew | apply Ext.drewN | (refine Ext.trans ?_ (by assumption)))))
           | (go_at_call 52; refine (sign_any _ _).mono ?_; rintro e w1 ⟨rfl, rfl⟩; (try go_simp); refine hK _ _ ?_ ?_; exact rfl; exact Ext.refl _))))
  case hV1 => (simp only [List.forall_mem_cons]; simp [stable_is])
  case fin1 =>
    intro u w2 hW2 hC2 hd
    simp only [AllV, is] at hd
    simp only [hd]
    clear hd
    go_wp2
    go_ret
    exact ⟨rfl, by (repeat (first | exact Ext.refl _ | assumption | apply Ext.alloc | apply Ext.drew | apply Ext.drewN | (refine Ext.trans ?_ (by assumption))))⟩

set_option maxRecDepth 100000 in
set_option maxHeartbeats 1600000 in
theorem crosses_yes (ax ay bx by_ cx cy dx dy : Int) (w : World) (h : sideB cx cy dx dy ax ay bx by_ = true) :
    Calls Try.prog 42 #[.agg #[.int .i64 ax, .int .i64 ay, .int .i64 bx, .int .i64 by_], .agg #[.int .i64 cx, .int .i64 cy, .int .i64 dx, .int .i64 dy]] w fun e w' => e = .returned (.bool (sideB ax ay bx by_ cx cy dx dy)) ∧ Ext w w' := by
  have HB : Hid (∀ w', Ext ((w.alloc (.cells #[.int .i64 ax, .int .i64 ay, .int .i64 bx, .int .i64 by_] 51)).alloc (.cells #[.int .i64 cx, .int .i64 cy, .int .i64 dx, .int .i64 dy] 51)) w' → w'.cell? ⟨w.heap.size, 0, none⟩ = some (.int .i64 ax) ∧ w'.cell? ⟨w.heap.size, 1, none⟩ = some (.int .i64 ay) ∧ w'.cell? ⟨w.heap.size, 2, none⟩ = some (.int .i64 bx) ∧ w'.cell? ⟨w.heap.size, 3, none⟩ = some (.int .i64 by_) ∧ w'.cell? ⟨w.heap.size + 1, 0, none⟩ = some (.int .i64 cx) ∧ w'.cell? ⟨w.heap.size + 1, 1, none⟩ = some (.int .i64 cy) ∧ w'.cell? ⟨w.heap.size + 1, 2, none⟩ = some (.int .i64 dx) ∧ w'.cell? ⟨w.heap.size + 1, 3, none⟩ = some (.int .i64 dy)) := fun w' hx => by
    and_intros <;> (((first | rw [hx.cells _ _ (by first | (simp; done) | (simp; omega))] | rw [hx.frozens _ _ (by first | (simp; done) | (simp; omega))]); (first | (simp [go_sem]; done) | (simp [go_sem, World.cell?_alloc_past]; done) | (simp [go_sem, World.frozen?]; done))))
  unfold sideB at h
  have q1 := sgn_mul_wrap (turnW cx cy dx dy ax ay) (turnW cx cy dx dy bx by_)
  have q2 := sgn_mul_wrap (turnW ax ay bx by_ cx cy) (turnW ax ay bx by_ dx dy)
  go_enter Try.func42, Try.ntmps42
  go_wp2
  refine wp_flow (by kernel_rfl) (by kernel_rfl) (fun u => ⟨#[_, _, _, _, u 38, u 0, u 1, u 2, u 3, u 4, u 5, u 6, u 7, u 8, u 9, u 10, u 11, u 12, u 13, u 14, u 15, u 16, u 17, u 18, u 19, u 20, u 21, u 22, u 23, u 24, u 25, u 26, u 27, u 28, u 29, u 30, u 31, u 32, u 33, u 34, u 35, u 36, u 37], _⟩) (fun i => List.getD [_, _, _, _, _, _, _, _, _, _, _, _, _, _, _, _, _, _, _, _, _, _, _, _, _, _, _, _, _, _, _, _, _, _, _, _, _, _, _] i undef) [is ?v2_0, is ?v2_1, is ?v2_2, is ?v2_3, is ?v2_4, is ?v2_5, is ?v2_6, is ?v2_7, is ?v2_8, is ?v2_9, is ?v2_10, is ?v2_11, is ?v2_12, is ?v2_13, is ?v2_14, is ?v2_15, is ?v2_16, is ?v2_17, is ?v2_18, is ?v2_19, is ?v2_20, is ?v2_21, is ?v2_22, is ?v2_23, is ?v2_24, is ?v2_25, is ?v2_26, is ?v2_27, is ?v2_28, is ?v2_29, is ?v2_30, is ?v2_31, is ?v2_32, is ?v2_33, is ?v2_34, is ?v2_35, is ?v2_36, is ?v2_37, is ?v2_38] (fun w' => w'.cell? ⟨w.heap.size, 0, none⟩ = some (.int .i64 ax) ∧ w'.cell? ⟨w.heap.size, 1, none⟩ = some (.int .i64 ay) ∧ w'.cell? ⟨w.heap.size, 2, none⟩ = some (.int .i64 bx) ∧ w'.cell? ⟨w.heap.size, 3, none⟩ = some (.int .i64 by_) ∧ w'.cell? ⟨w.heap.size + 1, 0, none⟩ = some (.int .i64 cx) ∧ w'.cell? ⟨w.heap.size + 1, 1, none⟩ = some (.int .i64 cy) ∧ w'.cell? ⟨w.heap.size + 1, 2, none⟩ = some (.int .i64 dx) ∧ w'.cell? ⟨w.heap.size + 1, 3, none⟩ = some (.int .i64 dy)) _ rfl ?hC2 ?hs2 ?hV2 ?fin2
  case hC2 => exact HB.out
  case hs2 =>
    repeat' (first
      | exact FSteps.nil
      | refine FSteps.cons ?_ ?_
      | (refine FStep.off_ _ _ _ rfl rfl ?_ (fun _ => rfl) ?_; (focus (intro u w hd; simp [vOf, is, Region.binds] at hd; simp [hd])); (intro w'; exact rfl); done)
      | ((first
          | refine FStep.plain rfl ?_
          | (refine FStep.on_ _ _ _ rfl rfl ?_ ?_; (focus (intro u w hd; simp [vOf, is, Region.binds] at hd; simp [hd]))))
         intro u w hW hC hd K hK
         (try simp [vOf, is, Region.binds] at hd)
         simp only [upd, Nat.reduceEqDiff, if_true, if_false] at hK
         (try simp only [hd] at hK)
         go_simp
         (first
           | (refine hK _ _ ?_ ?_; (first | exact rfl); (repeat (first | exact Ext.refl _ | assumption | apply Ext.alloc | apply Ext.drew | apply Ext.drewN | (refine Ext.trans ?_ (by assumption)))))
           | (go_at_call 49; refine (turn_any _ _ _ _ _ _ _).mono ?_; rintro e w1 ⟨rfl, hb⟩; (try go_simp); refine hK _ _ ?_ ?_; (first | exact rfl); (repeat (first | exact Ext.refl _ | assumption | apply Ext.alloc | apply Ext.drew | apply Ext.drewN | (refine Ext.trans ?_ (by assumption)))))
           | (go_at_call 52; refine (sign_any _ _).mono ?_; rintro e w1 ⟨rfl, rfl⟩; (try go_simp); refine hK _ _ ?_ ?_; exact rfl; exact Ext.refl _))))
  case hV2 => (simp only [List.forall_mem_cons]; simp [stable_is])
  case fin2 =>
    intro u w2 hW2 hC2 hd
    simp only [AllV, is] at hd
    simp only [hd]
    clear hd
    go_wp2
    go_ret
    exact ⟨rfl, by (repeat (first | exact Ext.refl _ | assumption | apply Ext.alloc | apply Ext.drew | apply Ext.drewN | (refine Ext.trans ?_ (by assumption))))⟩

theorem crosses_any (ax ay bx by_ cx cy dx dy : Int) (w : World) :
    Calls Try.prog 42 #[.agg #[.int .i64 ax, .int .i64 ay, .int .i64 bx, .int .i64 by_], .agg #[.int .i64 cx, .int .i64 cy, .int .i64 dx, .int .i64 dy]] w fun e w' => e = .returned (.bool (crossB ax ay bx by_ cx cy dx dy)) ∧ Ext w w' := by
  unfold crossB
  cases h : sideB cx cy dx dy ax ay bx by_ with
  | false => exact crosses_no _ _ _ _ _ _ _ _ _ h
  | true => exact crosses_yes _ _ _ _ _ _ _ _ _ h

set_option maxRecDepth 100000 in
set_option maxHeartbeats 1600000 in
theorem l03Cross_no (ax ay bx by_ cx cy dx dy : Int) (w : World) (h : sideB ax ay bx by_ cx cy dx dy = false) :
    Calls Try.prog 62 #[.agg #[.int .i64 ax, .int .i64 ay], .agg #[.int .i64 bx, .int .i64 by_], .agg #[.int .i64 cx, .int .i64 cy], .agg #[.int .i64 dx, .int .i64 dy]] w fun e w' => e = .returned (.bool false) ∧ Ext w w' := by
  have HB : Hid (∀ w', Ext ((((w.alloc (.cells #[.int .i64 ax, .int .i64 ay] 38)).alloc (.cells #[.int .i64 bx, .int .i64 by_] 38)).alloc (.cells #[.int .i64 cx, .int .i64 cy] 38)).alloc (.cells #[.int .i64 dx, .int .i64 dy] 38)) w' → w'.cell? ⟨w.heap.size, 0, none⟩ = some (.int .i64 ax) ∧ w'.cell? ⟨w.heap.size, 1, none⟩ = some (.int .i64 ay) ∧ w'.cell? ⟨w.heap.size + 1, 0, none⟩ = some (.int .i64 bx) ∧ w'.cell? ⟨w.heap.size + 1, 1, none⟩ = some (.int .i64 by_) ∧ w'.cell? ⟨w.heap.size + 1 + 1, 0, none⟩ = some (.int .i64 cx) ∧ w'.cell? ⟨w.heap.size + 1 + 1, 1, none⟩ = some (.int .i64 cy) ∧ w'.cell? ⟨w.heap.size + 1 + 1 + 1, 0, none⟩ = some (.int .i64 dx) ∧ w'.cell? ⟨w.heap.size + 1 + 1 + 1, 1, none⟩ = some (.int .i64 dy)) := fun w' hx => by
    and_intros <;> (((first | rw [hx.cells _ _ (by first | (simp; done) | (simp; omega))] | rw [hx.frozens _ _ (by first | (simp; done) | (simp; omega))]); (first | (simp [go_sem]; done) | (simp [go_sem, World.cell?_alloc_past]; done) | (simp [go_sem, World.frozen?]; done))))
  unfold sideB at h
  have q2 := sgn_mul_wrap (turnW ax ay bx by_ cx cy) (turnW ax ay bx by_ dx dy)
  go_enter Try.func62, Try.ntmps62
  go_wp2
  refine wp_flow (by kernel_rfl) (by kernel_rfl) (fun u => ⟨#[_, _, _, _, _, _, _, _, u 26, u 0, u 1, u 2, u 3, u 4, u 5, u 6, u 7, u 8, u 9, u 10, u 11, u 12, u 13, u 14, u 15, u 16, u 17, u 18, u 19, u 20, u 21, u 22, u 23, u 24, u 25], _⟩) (fun i => List.getD [_, _, _, _, _, _, _, _, _, _, _, _, _, _, _, _, _, _, _, _, _, _, _, _, _, _, _] i undef) [is ?v3_0, is ?v3_1, is ?v3_2, is ?v3_3, is ?v3_4, is ?v3_5, is ?v3_6, is ?v3_7, is ?v3_8, is ?v3_9, is ?v3_10, is ?v3_11, is ?v3_12, is ?v3_13, is ?v3_14, is ?v3_15, is ?v3_16, is ?v3_17, is ?v3_18, is ?v3_19, is ?v3_20, is ?v3_21, is ?v3_22, is ?v3_23, is ?v3_24, is ?v3_25, is ?v3_26] (fun w' => w'.cell? ⟨w.heap.size, 0, none⟩ = some (.int .i64 ax) ∧ w'.cell? ⟨w.heap.size, 1, none⟩ = some (.int .i64 ay) ∧ w'.cell? ⟨w.heap.size + 1, 0, none⟩ = some (.int .i64 bx) ∧ w'.cell? ⟨w.heap.size + 1, 1, none⟩ = some (.int .i64 by_) ∧ w'.cell? ⟨w.heap.size + 1 + 1, 0, none⟩ = some (.int .i64 cx) ∧ w'.cell? ⟨w.heap.size + 1 + 1, 1, none⟩ = some (.int .i64 cy) ∧ w'.cell? ⟨w.heap.size + 1 + 1 + 1, 0, none⟩ = some (.int .i64 dx) ∧ w'.cell? ⟨w.heap.size + 1 + 1 + 1, 1, none⟩ = some (.int .i64 dy)) _ rfl ?hC3 ?hs3 ?hV3 ?fin3
  case hC3 => exact HB.out
  case hs3 =>
    repeat' (first
      | exact FSteps.nil
      | refine FSteps.cons ?_ ?_
      | (refine FStep.off_ _ _ _ rfl rfl ?_ (fun _ => rfl) ?_; (focus (intro u w hd; simp [vOf, is, Region.binds] at hd; simp [hd])); (intro w'; exact rfl); done)
      | ((first
          | refine FStep.plain rfl ?_
          | (refine FStep.on_ _ _ _ rfl rfl ?_ ?_; (focus (intro u w hd; simp [vOf, is, Region.binds] at hd; simp [hd]))))
         intro u w hW hC hd K hK
         (try simp [vOf, is, Region.binds] at hd)
         simp only [upd, Nat.reduceEqDiff, if_true, if_false] at hK
         (try simp only [hd] at hK)
         go_simp
         (first
           | (refine hK _ _ ?_ ?_; (first | exact rfl); (repeat (first | exact Ext.refl _ | assumption | apply Ext.alloc | apply Ext.drew | apply Ext.drewN | (refine Ext.trans ?_ (by assumption)))))
           | (go_at_call 56; refine (sturn_any _ _ _ _ _ _ _).mono ?_; rintro e w1 ⟨rfl, hb⟩; (try go_simp); refine hK _ _ ?_ ?_; (first | exact rfl); (repeat (first | exact Ext.refl _ | assumption | apply Ext.alloc | apply Ext.drew | apply Ext.drewN | (refine Ext.trans ?_ (by assumption)))))
           | (go_at_call 64; refine (l03Sign_any _ _).mono ?_; rintro e w1 ⟨rfl, rfl⟩; (try go_simp); refine hK _ _ ?_ ?_; exact rfl; exact Ext.refl _))))
  case hV3 => (simp only [List.forall_mem_cons]; simp [stable_is])
  case fin3 =>
    intro u w2 hW2 hC2 hd
    simp only [AllV, is] at hd
    simp only [hd]
    clear hd
    go_wp2
    go_ret
    exact ⟨rfl, by (repeat (first | exact Ext.refl _ | assumption | apply Ext.alloc | apply Ext.drew | apply Ext.drewN | (refine Ext.trans ?_ (by assumption))))⟩

set_option maxRecDepth 100000 in
set_option maxHeartbeats 1600000 in
theorem l03Cross_yes (ax ay bx by_ cx cy dx dy : Int) (w : World) (h : sideB ax ay bx by_ cx cy dx dy = true) :
    Calls Try.prog 62 #[.agg #[.int .i64 ax, .int .i64 ay], .agg #[.int .i64 bx, .int .i64 by_], .agg #[.int .i64 cx, .int .i64 cy], .agg #[.int .i64 dx, .int .i64 dy]] w fun e w' => e = .returned (.bool (sideB cx cy dx dy ax ay bx by_)) ∧ Ext w w' := by
  have HB : Hid (∀ w', Ext ((((w.alloc (.cells #[.int .i64 ax, .int .i64 ay] 38)).alloc (.cells #[.int .i64 bx, .int .i64 by_] 38)).alloc (.cells #[.int .i64 cx, .int .i64 cy] 38)).alloc (.cells #[.int .i64 dx, .int .i64 dy] 38)) w' → w'.cell? ⟨w.heap.size, 0, none⟩ = some (.int .i64 ax) ∧ w'.cell? ⟨w.heap.size, 1, none⟩ = some (.int .i64 ay) ∧ w'.cell? ⟨w.heap.size + 1, 0, none⟩ = some (.int .i64 bx) ∧ w'.cell? ⟨w.heap.size + 1, 1, none⟩ = some (.int .i64 by_) ∧ w'.cell? ⟨w.heap.size + 1 + 1, 0, none⟩ = some (.int .i64 cx) ∧ w'.cell? ⟨w.heap.size + 1 + 1, 1, none⟩ = some (.int .i64 cy) ∧ w'.cell? ⟨w.heap.size + 1 + 1 + 1, 0, none⟩ = some (.int .i64 dx) ∧ w'.cell? ⟨w.heap.size + 1 + 1 + 1, 1, none⟩ = some (.int .i64 dy)) := fun w' hx => by
    and_intros <;> (((first | rw [hx.cells _ _ (by first | (simp; done) | (simp; omega))] | rw [hx.frozens _ _ (by first | (simp; done) | (simp; omega))]); (first | (simp [go_sem]; done) | (simp [go_sem, World.cell?_alloc_past]; done) | (simp [go_sem, World.frozen?]; done))))
  unfold sideB at h
  have q1 := sgn_mul_wrap (turnW cx cy dx dy ax ay) (turnW cx cy dx dy bx by_)
  have q2 := sgn_mul_wrap (turnW ax ay bx by_ cx cy) (turnW ax ay bx by_ dx dy)
  go_enter Try.func62, Try.ntmps62
  go_wp2
  refine wp_flow (by kernel_rfl) (by kernel_rfl) (fun u => ⟨#[_, _, _, _, _, _, _, _, u 26, u 0, u 1, u 2, u 3, u 4, u 5, u 6, u 7, u 8, u 9, u 10, u 11, u 12, u 13, u 14, u 15, u 16, u 17, u 18, u 19, u 20, u 21, u 22, u 23, u 24, u 25], _⟩) (fun i => List.getD [_, _, _, _, _, _, _, _, _, _, _, _, _, _, _, _, _, _, _, _, _, _, _, _, _, _, _] i undef) [is ?v4_0, is ?v4_1, is ?v4_2, is ?v4_3, is ?v4_4, is ?v4_5, is ?v4_6, is ?v4_7, is ?v4_8, is ?v4_9, is ?v4_10, is ?v4_11, is ?v4_12, is ?v4_13, is ?v4_14, is ?v4_15, is ?v4_16, is ?v4_17, is ?v4_18, is ?v4_19, is ?v4_20, is ?v4_21, is ?v4_22, is ?v4_23, is ?v4_24, is ?v4_25, is ?v4_26] (fun w' => w'.cell? ⟨w.heap.size, 0, none⟩ = some (.int .i64 ax) ∧ w'.cell? ⟨w.heap.size, 1, none⟩ = some (.int .i64 ay) ∧ w'.cell? ⟨w.heap.size + 1, 0, none⟩ = some (.int .i64 bx) ∧ w'.cell? ⟨w.heap.size + 1, 1, none⟩ = some (.int .i64 by_) ∧ w'.cell? ⟨w.heap.size + 1 + 1, 0, none⟩ = some (.int .i64 cx) ∧ w'.cell? ⟨w.heap.size + 1 + 1, 1, none⟩ = some (.int .i64 cy) ∧ w'.cell? ⟨w.heap.size + 1 + 1 + 1, 0, none⟩ = some (.int .i64 dx) ∧ w'.cell? ⟨w.heap.size + 1 + 1 + 1, 1, none⟩ = some (.int .i64 dy)) _ rfl ?hC4 ?hs4 ?hV4 ?fin4
  case hC4 => exact HB.out
  case hs4 =>
    repeat' (first
      | exact FSteps.nil
      | refine FSteps.cons ?_ ?_
      | (refine FStep.off_ _ _ _ rfl rfl ?_ (fun _ => rfl) ?_; (focus (intro u w hd; simp [vOf, is, Region.binds] at hd; simp [hd])); (intro w'; exact rfl); done)
      | ((first
          | refine FStep.plain rfl ?_
          | (refine FStep.on_ _ _ _ rfl rfl ?_ ?_; (focus (intro u w hd; simp [vOf, is, Region.binds] at hd; simp [hd]))))
         intro u w hW hC hd K hK
         (try simp [vOf, is, Region.binds] at hd)
         simp only [upd, Nat.reduceEqDiff, if_true, if_false] at hK
         (try simp only [hd] at hK)
         go_simp
         (first
           | (refine hK _ _ ?_ ?_; (first | exact rfl); (repeat (first | exact Ext.refl _ | assumption | apply Ext.alloc | apply Ext.drew | apply Ext.drewN | (refine Ext.trans ?_ (by assumption)))))
           | (go_at_call 56; refine (sturn_any _ _ _ _ _ _ _).mono ?_; rintro e w1 ⟨rfl, hb⟩; (try go_simp); refine hK _ _ ?_ ?_; (first | exact rfl); (repeat (first | exact Ext.refl _ | assumption | apply Ext.alloc | apply Ext.drew | apply Ext.drewN | (refine Ext.trans ?_ (by assumption)))))
           | (go_at_call 64; refine (l03Sign_any _ _).mono ?_; rintro e w1 ⟨rfl, rfl⟩; (try go_simp); refine hK _ _ ?_ ?_; exact rfl; exact Ext.refl _))))
  case hV4 => (simp only [List.forall_mem_cons]; simp [stable_is])
  case fin4 =>
    intro u w2 hW2 hC2 hd
    simp only [AllV, is] at hd
    simp only [hd]
    clear hd
    go_wp2
    go_ret
    exact ⟨rfl, by (repeat (first | exact Ext.refl _ | assumption | apply Ext.alloc | apply Ext.drew | apply Ext.drewN | (refine Ext.trans ?_ (by assumption))))⟩

theorem l03Cross_any (ax ay bx by_ cx cy dx dy : Int) (w : World) :
    Calls Try.prog 62 #[.agg #[.int .i64 ax, .int .i64 ay], .agg #[.int .i64 bx, .int .i64 by_], .agg #[.int .i64 cx, .int .i64 cy], .agg #[.int .i64 dx, .int .i64 dy]] w fun e w' => e = .returned (.bool (crossB ax ay bx by_ cx cy dx dy)) ∧ Ext w w' := by
  unfold crossB
  rw [Bool.and_comm]
  cases h : sideB ax ay bx by_ cx cy dx dy with
  | false => exact l03Cross_no _ _ _ _ _ _ _ _ _ h
  | true => exact l03Cross_yes _ _ _ _ _ _ _ _ _ h

end Go.Proofs.Ytanagdlikoinaaa

namespace Go.Proofs.Ytanagdlikoinaaa
open Go.RowKit

def onWallV (a b c d px py : Int) : Bool := wok a b c d && BetV px py a b c d
def doCrossV (ax ay bx by_ cx cy dx dy : Int) : Bool := wok ax ay bx by_ && (wok cx cy dx dy && crossB ax ay bx by_ cx cy dx dy)
/-- DoMeet, as both texts give it -/
def meetV (ax ay bx by_ cx cy dx dy : Int) : Bool :=
  wok ax ay bx by_ && (wok cx cy dx dy && (crossB ax ay bx by_ cx cy dx dy || (onW ax ay cx cy dx dy || (onW bx by_ cx cy dx dy || (onW cx cy ax ay bx by_ || onW dx dy ax ay bx by_)))))

theorem sIsOnWall_any (a b c d px py : Int) (w : World) :
    Calls Try.prog 61 #[.agg #[.int .i64 a, .int .i64 b, .int .i64 c, .int .i64 d], .agg #[.int .i64 px, .int .i64 py]] w fun e w' => e = .returned (.bool (onWallV a b c d px py)) ∧ Ext w w' := by
  have HB : Hid (∀ w', Ext ((w.alloc (.cells #[.int .i64 a, .int .i64 b, .int .i64 c, .int .i64 d] 51)).alloc (.cells #[.int .i64 px, .int .i64 py] 38)) w' → w'.cell? ⟨w.heap.size, 0, none⟩ = some (.int .i64 a) ∧ w'.cell? ⟨w.heap.size, 1, none⟩ = some (.int .i64 b) ∧ w'.cell? ⟨w.heap.size, 2, none⟩ = some (.int .i64 c) ∧ w'.cell? ⟨w.heap.size, 3, none⟩ = some (.int .i64 d) ∧ w'.cell? ⟨w.heap.size + 1, 0, none⟩ = some (.int .i64 px) ∧ w'.cell? ⟨w.heap.size + 1, 1, none⟩ = some (.int .i64 py)) := fun w' hx => by
    and_intros <;> (((first | rw [hx.cells _ _ (by first | (simp; done) | (simp; omega))] | rw [hx.frozens _ _ (by first | (simp; done) | (simp; omega))]); (first | (simp [go_sem]; done) | (simp [go_sem, World.cell?_alloc_past]; done) | (simp [go_sem, World.frozen?]; done))))
  unfold onWallV
  go_enter Try.func61, Try.ntmps61
  go_wp2_with (first | (go_at_call 59; refine (sWallOk_any _ _ _ _ _).mono ?_; rintro e w1 ⟨rfl, hb⟩; have hcc := HB.out w1 (by (repeat (first | exact Ext.refl _ | assumption | apply Ext.alloc | apply Ext.drew | apply Ext.drewN | (refine Ext.trans ?_ (by assumption)))))) | (go_at_call 63; refine (sIsBetween_any _ _ _ _ _ _ _).mono ?_; rintro e w1 ⟨rfl, hb⟩; have hcc := HB.out w1 (by (repeat (first | exact Ext.refl _ | assumption | apply Ext.alloc | apply Ext.drew | apply Ext.drewN | (refine Ext.trans ?_ (by assumption)))))))
  all_goals (go_ret; exact ⟨ret_bool (by simp [*]), by (repeat (first | exact Ext.refl _ | assumption | apply Ext.alloc | apply Ext.drew | apply Ext.drewN | (refine Ext.trans ?_ (by assumption))))⟩)

set_option maxHeartbeats 800000 in
theorem sDoCross_any (ax ay bx by_ cx cy dx dy : Int) (w : World) :
    Calls Try.prog 60 #[.agg #[.int .i64 ax, .int .i64 ay, .int .i64 bx, .int .i64 by_], .agg #[.int .i64 cx, .int .i64 cy, .int .i64 dx, .int .i64 dy]] w fun e w' => e = .returned (.bool (doCrossV ax ay bx by_ cx cy dx dy)) ∧ Ext w w' := by
  have HB : Hid (∀ w', Ext ((w.alloc (.cells #[.int .i64 ax, .int .i64 ay, .int .i64 bx, .int .i64 by_] 51)).alloc (.cells #[.int .i64 cx, .int .i64 cy, .int .i64 dx, .int .i64 dy] 51)) w' → w'.cell? ⟨w.heap.size, 0, none⟩ = some (.int .i64 ax) ∧ w'.cell? ⟨w.heap.size, 1, none⟩ = some (.int .i64 ay) ∧ w'.cell? ⟨w.heap.size, 2, none⟩ = some (.int .i64 bx) ∧ w'.cell? ⟨w.heap.size, 3, none⟩ = some (.int .i64 by_) ∧ w'.cell? ⟨w.heap.size + 1, 0, none⟩ = some (.int .i64 cx) ∧ w'.cell? ⟨w.heap.size + 1, 1, none⟩ = some (.int .i64 cy) ∧ w'.cell? ⟨w.heap.size + 1, 2, none⟩ = some (.int .i64 dx) ∧ w'.cell? ⟨w.heap.size + 1, 3, none⟩ = some (.int .i64 dy)) := fun w' hx => by
    and_intros <;> (((first | rw [hx.cells _ _ (by first | (simp; done) | (simp; omega))] | rw [hx.frozens _ _ (by first | (simp; done) | (simp; omega))]); (first | (simp [go_sem]; done) | (simp [go_sem, World.cell?_alloc_past]; done) | (simp [go_sem, World.frozen?]; done))))
  unfold doCrossV
  go_enter Try.func60, Try.ntmps60
  go_wp2_with (first | (go_at_call 59; refine (sWallOk_any _ _ _ _ _).mono ?_; rintro e w1 ⟨rfl, hb⟩; have hcc := HB.out w1 (by (repeat (first | exact Ext.refl _ | assumption | apply Ext.alloc | apply Ext.drew | apply Ext.drewN | (refine Ext.trans ?_ (by assumption)))))) | (go_at_call 62; refine (l03Cross_any _ _ _ _ _ _ _ _ _).mono ?_; rintro e w1 ⟨rfl, hb⟩; have hcc := HB.out w1 (by (repeat (first | exact Ext.refl _ | assumption | apply Ext.alloc | apply Ext.drew | apply Ext.drewN | (refine Ext.trans ?_ (by assumption)))))))
  all_goals (go_ret; exact ⟨ret_bool (by simp [*]), by (repeat (first | exact Ext.refl _ | assumption | apply Ext.alloc | apply Ext.drew | apply Ext.drewN | (refine Ext.trans ?_ (by assumption))))⟩)

set_option maxRecDepth 100000 in
set_option maxHeartbeats 1600000 in
theorem DoMeet_any (ax ay bx by_ cx cy dx dy : Int) (w : World) :
    Calls Try.prog 50 #[.agg #[.int .i64 ax, .int .i64 ay, .int .i64 bx, .int .i64 by_], .agg #[.int .i64 cx, .int .i64 cy, .int .i64 dx, .int .i64 dy]] w fun e w' => e = .returned (.bool (meetV ax ay bx by_ cx cy dx dy)) ∧ Ext w w' := by
  have HB : Hid (∀ w', Ext ((w.alloc (.cells #[.int .i64 ax, .int .i64 ay, .int .i64 bx, .int .i64 by_] 51)).alloc (.cells #[.int .i64 cx, .int .i64 cy, .int .i64 dx, .int .i64 dy] 51)) w' → w'.cell? ⟨w.heap.size, 0, none⟩ = some (.int .i64 ax) ∧ w'.cell? ⟨w.heap.size, 1, none⟩ = some (.int .i64 ay) ∧ w'.cell? ⟨w.heap.size, 2, none⟩ = some (.int .i64 bx) ∧ w'.cell? ⟨w.heap.size, 3, none⟩ = some (.int .i64 by_) ∧ w'.cell? ⟨w.heap.size + 1, 0, none⟩ = some (.int .i64 cx) ∧ w'.cell? ⟨w.heap.size + 1, 1, none⟩ = some (.int .i64 cy) ∧ w'.cell? ⟨w.heap.size + 1, 2, none⟩ = some (.int .i64 dx) ∧ w'.cell? ⟨w.heap.size + 1, 3, none⟩ = some (.int .i64 dy)) := fun w' hx => by
    and_intros <;> (((first | rw [hx.cells _ _ (by first | (simp; done) | (simp; omega))] | rw [hx.frozens _ _ (by first | (simp; done) | (simp; omega))]); (first | (simp [go_sem]; done) | (simp [go_sem, World.cell?_alloc_past]; done) | (simp [go_sem, World.frozen?]; done))))
  unfold meetV
  go_enter Try.func50, Try.ntmps50
  go_wp2_with (first | (go_at_call 51; refine (WallOk_any _ _ _ _ _).mono ?_; rintro e w1 ⟨rfl, hb⟩; have hcc := HB.out w1 (by (repeat (first | exact Ext.refl _ | assumption | apply Ext.alloc | apply Ext.drew | apply Ext.drewN | (refine Ext.trans ?_ (by assumption)))))) | (go_at_call 42; refine (crosses_any _ _ _ _ _ _ _ _ _).mono ?_; rintro e w1 ⟨rfl, hb⟩; have hcc := HB.out w1 (by (repeat (first | exact Ext.refl _ | assumption | apply Ext.alloc | apply Ext.drew | apply Ext.drewN | (refine Ext.trans ?_ (by assumption)))))) | (go_at_call 41; refine (on_any _ _ _ _ _ _ _).mono ?_; rintro e w1 ⟨rfl, hb⟩; have hcc := HB.out w1 (by (repeat (first | exact Ext.refl _ | assumption | apply Ext.alloc | apply Ext.drew | apply Ext.drewN | (refine Ext.trans ?_ (by assumption)))))))
  all_goals (go_ret; exact ⟨ret_bool (by simp [*]), by (repeat (first | exact Ext.refl _ | assumption | apply Ext.alloc | apply Ext.drew | apply Ext.drewN | (refine Ext.trans ?_ (by assumption))))⟩)

theorem meet_spec {ax ay bx by_ cx cy dx dy : Int} (h1 : wok ax ay bx by_ = true) (h2 : wok cx cy dx dy = true) :
    (doCrossV ax ay bx by_ cx cy dx dy || (onWallV ax ay bx by_ cx cy || (onWallV ax ay bx by_ dx dy || (onWallV cx cy dx dy ax ay || onWallV cx cy dx dy bx by_)))) = meetV ax ay bx by_ cx cy dx dy := by
  have p1 : pok2 ax ay bx by_ = true := by unfold wok at h1; rw [Bool.and_eq_true] at h1; exact h1.1
  have p2 : pok2 cx cy dx dy = true := by unfold wok at h2; rw [Bool.and_eq_true] at h2; exact h2.1
  unfold pok2 at p1 p2
  rw [Bool.and_eq_true] at p1 p2
  unfold doCrossV onWallV meetV BetV pok3
  rw [h1, h2, p1.1, p1.2, p2.1, p2.2]
  simp only [Bool.true_and]
  cases onW ax ay cx cy dx dy <;> cases onW bx by_ cx cy dx dy <;> cases onW cx cy ax ay bx by_ <;> cases onW dx dy ax ay bx by_ <;> simp

set_option maxRecDepth 100000 in
set_option maxHeartbeats 1600000 in
theorem sDoMeet_any (ax ay bx by_ cx cy dx dy : Int) (w : World) :
    Calls Try.prog 57 #[.agg #[.int .i64 ax, .int .i64 ay, .int .i64 bx, .int .i64 by_], .agg #[.int .i64 cx, .int .i64 cy, .int .i64 dx, .int .i64 dy]] w fun e w' => e = .returned (.bool (meetV ax ay bx by_ cx cy dx dy)) ∧ Ext w w' := by
  have HB : Hid (∀ w', Ext ((w.alloc (.cells #[.int .i64 ax, .int .i64 ay, .int .i64 bx, .int .i64 by_] 51)).alloc (.cells #[.int .i64 cx, .int .i64 cy, .int .i64 dx, .int .i64 dy] 51)) w' → w'.cell? ⟨w.heap.size, 0, none⟩ = some (.int .i64 ax) ∧ w'.cell? ⟨w.heap.size, 1, none⟩ = some (.int .i64 ay) ∧ w'.cell? ⟨w.heap.size, 2, none⟩ = some (.int .i64 bx) ∧ w'.cell? ⟨w.heap.size, 3, none⟩ = some (.int .i64 by_) ∧ w'.cell? ⟨w.heap.size + 1, 0, none⟩ = some (.int .i64 cx) ∧ w'.cell? ⟨w.heap.size + 1, 1, none⟩ = some (.int .i64 cy) ∧ w'.cell? ⟨w.heap.size + 1, 2, none⟩ = some (.int .i64 dx) ∧ w'.cell? ⟨w.heap.size + 1, 3, none⟩ = some (.int .i64 dy)) := fun w' hx => by
    and_intros <;> (((first | rw [hx.cells _ _ (by first | (simp; done) | (simp; omega))] | rw [hx.frozens _ _ (by first | (simp; done) | (simp; omega))]); (first | (simp [go_sem]; done) | (simp [go_sem, World.cell?_alloc_past]; done) | (simp [go_sem, World.frozen?]; done))))
  cases h1 : wok ax ay bx by_
  · have e0 : meetV ax ay bx by_ cx cy dx dy = false := by simp [meetV, h1]
    rw [e0]
    clear e0
    go_enter Try.func57, Try.ntmps57
    go_wp2_with ((go_at_call 59; refine (sWallOk_any _ _ _ _ _).mono ?_; rintro e w1 ⟨rfl, hb⟩; have hcc := HB.out w1 (by (repeat (first | exact Ext.refl _ | assumption | apply Ext.alloc | apply Ext.drew | apply Ext.drewN | (refine Ext.trans ?_ (by assumption)))))))
    go_ret
    exact ⟨rfl, by (repeat (first | exact Ext.refl _ | assumption | apply Ext.alloc | apply Ext.drew | apply Ext.drewN | (refine Ext.trans ?_ (by assumption))))⟩
  · cases h2 : wok cx cy dx dy
    · have e0 : meetV ax ay bx by_ cx cy dx dy = false := by simp [meetV, h1, h2]
      rw [e0]
      clear e0
      go_enter Try.func57, Try.ntmps57
      go_wp2_with ((go_at_call 59; refine (sWallOk_any _ _ _ _ _).mono ?_; rintro e w1 ⟨rfl, hb⟩; have hcc := HB.out w1 (by (repeat (first | exact Ext.refl _ | assumption | apply Ext.alloc | apply Ext.drew | apply Ext.drewN | (refine Ext.trans ?_ (by assumption)))))))
      go_ret
      exact ⟨rfl, by (repeat (first | exact Ext.refl _ | assumption | apply Ext.alloc | apply Ext.drew | apply Ext.drewN | (refine Ext.trans ?_ (by assumption))))⟩
    · rw [← meet_spec h1 h2]
      go_enter Try.func57, Try.ntmps57
      go_wp2_with (first | (go_at_call 59; refine (sWallOk_any _ _ _ _ _).mono ?_; rintro e w1 ⟨rfl, hb⟩; have hcc := HB.out w1 (by (repeat (first | exact Ext.refl _ | assumption | apply Ext.alloc | apply Ext.drew | apply Ext.drewN | (refine Ext.trans ?_ (by assumption)))))) | (go_at_call 60; refine (sDoCross_any _ _ _ _ _ _ _ _ _).mono ?_; rintro e w1 ⟨rfl, hb⟩; have hcc := HB.out w1 (by (repeat (first | exact Ext.refl _ | assumption | apply Ext.alloc | apply Ext.drew | apply Ext.drewN | (refine Ext.trans ?_ (by assumption)))))) | (go_at_call 61; refine (sIsOnWall_any _ _ _ _ _ _ _).mono ?_; rintro e w1 ⟨rfl, hb⟩; have hcc := HB.out w1 (by (repeat (first | exact Ext.refl _ | assumption | apply Ext.alloc | apply Ext.drew | apply Ext.drewN | (refine Ext.trans ?_ (by assumption)))))))
      all_goals (go_ret; exact ⟨ret_bool (by simp [*]), by (repeat (first | exact Ext.refl _ | assumption | apply Ext.alloc | apply Ext.drew | apply Ext.drewN | (refine Ext.trans ?_ (by assumption))))⟩)

end Go.Proofs.Ytanagdlikoinaaa

