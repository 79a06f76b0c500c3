/- 13 texts joined: Pts Area Near SPt Wall Cross Meet Room RoomOk SRoomOk Mark RoomLaw Cor. -/
import Derived.Test.YtjccilpjaaiicaaJ1
namespace Go.Proofs.Ytjccilpjaaiicaa
open Go.RowKit

def allok (l : List (Int × Int)) : Bool := l.all fun p => pok p.1 p.2

theorem allok_take_succ (l : List (Int × Int)) (k : Nat) (h : k < l.length) : allok (l.take (k+1)) = (allok (l.take k) && pok (gx l k) (gy l k)) := by
  unfold allok gx gy
  rw [List.take_succ_eq_append_getElem h, List.all_append, List.getD_eq_getElem?_getD, List.getElem?_eq_getElem h]
  simp

theorem allok_false (l : List (Int × Int)) (k : Nat) (h : k < l.length) (hp : pok (gx l k) (gy l k) = false) : allok l = false := by
  unfold allok
  rw [List.all_eq_false]
  refine ⟨l[k], List.getElem_mem h, ?_⟩
  unfold gx gy at hp
  rw [List.getD_eq_getElem?_getD, List.getElem?_eq_getElem h] at hp
  simpa using hp

set_option maxHeartbeats 400000 in
theorem pointsOk_any (A : Option Addr) (l : List (Int × Int)) (c : Nat) (w : World) (hp : RPts w A l) (hn : l.length ≤ 1048576) :
    Calls Try.prog 31 #[.slice A l.length c] w fun e w' => e = .returned (.bool (allok l)) ∧ Ext w w' := by
  go_enter Try.func31, Try.ntmps31
  go_wp2
  go_loopw [7] (fun i wr => ∃ k : Nat, k ≤ l.length ∧ i = .int .i64 k ∧ Ext w wr ∧ Hid (allok (l.take k) = true)) (fun i _ => l.length - (intOf i).toNat)
  case atStart => exact ⟨0, Nat.zero_le _, rfl, Ext.refl _, rfl⟩
  case round =>
    obtain ⟨k, hk, rfl, hbl, HOK⟩ := hrel
    by_cases hlt : k < l.length
    · obtain ⟨b, off, rfl, _, hx, hy⟩ := (hp.ext hbl).at_ hlt
      by_cases ho : pok (gx l k) (gy l k) = true
      · have HO := hide ho
        go_wp2_with ((go_at_call 41; refine (pok_any _ _ _).mono ?_; rintro e w1 ⟨rfl, hb⟩))
        go_roundw
        case rel => exact ⟨k + 1, by omega, by go_num, by (repeat (first | exact Ext.refl _ | assumption | apply Ext.alloc | apply Ext.drew | apply Ext.drewN | (refine Ext.trans ?_ (by assumption)))), by unfold Hid; rw [allok_take_succ _ _ hlt, HOK.out, HO.out]; rfl⟩
        case measure => simp [intOf]; omega
      · have hf : pok (gx l k) (gy l k) = false := by simpa using ho
        have HF := hide hf
        go_wp2_with ((go_at_call 41; refine (pok_any _ _ _).mono ?_; rintro e w1 ⟨rfl, hb⟩))
        go_ret
        exact ⟨by rw [allok_false _ _ hlt HF.out]; rfl, by (repeat (first | exact Ext.refl _ | assumption | apply Ext.alloc | apply Ext.drew | apply Ext.drewN | (refine Ext.trans ?_ (by assumption))))⟩
    · go_wp2
      go_ret
      have e : l.take k = l := List.take_of_length_le (by omega)
      rw [e] at HOK
      exact ⟨by rw [HOK.out]; rfl, by assumption⟩

theorem pointsOk2_any (b : Nat) (ax ay bx by_ : Int) (w : World) (hb : b < w.heap.size) (hc : w.cell? ⟨b, 0, none⟩ = some (.int .i64 ax) ∧ w.cell? ⟨b, 1, none⟩ = some (.int .i64 ay) ∧ w.cell? ⟨b, 2, none⟩ = some (.int .i64 bx) ∧ w.cell? ⟨b, 3, none⟩ = some (.int .i64 by_)) :
    Calls Try.prog 31 #[.slice (some ⟨b, 0, none⟩) 2 2] w fun e w' => e = .returned (.bool (pok2 ax ay bx by_)) ∧ Ext w w' := by
  have hp : PtsAt w b 0 [(ax, ay), (bx, by_)] := by
    obtain ⟨h0, h1, h2, h3⟩ := hc
    intro k hk
    match k, hk with
    | 0, _ => exact ⟨by simpa [gx] using h0, by simpa [gy] using h1⟩
    | 1, _ => exact ⟨by simpa [gx] using h2, by simpa [gy] using h3⟩
  refine (pointsOk_any (some ⟨b, 0, none⟩) [(ax, ay), (bx, by_)] 2 _ (fun _ => ⟨_, _, rfl, Nat.zero_le _, hb, hp⟩) (by simp)).mono ?_
  rintro e w1 ⟨rfl, hx⟩
  exact ⟨by simp [allok, pok2], hx⟩

theorem pointsOk3_any (b : Nat) (ax ay bx by_ cx cy : Int) (w : World) (hb : b < w.heap.size) (hc : w.cell? ⟨b, 0, none⟩ = some (.int .i64 ax) ∧ w.cell? ⟨b, 1, none⟩ = some (.int .i64 ay) ∧ w.cell? ⟨b, 2, none⟩ = some (.int .i64 bx) ∧ w.cell? ⟨b, 3, none⟩ = some (.int .i64 by_) ∧ w.cell? ⟨b, 4, none⟩ = some (.int .i64 cx) ∧ w.cell? ⟨b, 5, none⟩ = some (.int .i64 cy)) :
    Calls Try.prog 31 #[.slice (some ⟨b, 0, none⟩) 3 3] w fun e w' => e = .returned (.bool (pok3 ax ay bx by_ cx cy)) ∧ Ext w w' := by
  have hp : PtsAt w b 0 [(ax, ay), (bx, by_), (cx, cy)] := by
    obtain ⟨h0, h1, h2, h3, h4, h5⟩ := hc
    intro k hk
    match k, hk with
    | 0, _ => exact ⟨by simpa [gx] using h0, by simpa [gy] using h1⟩
    | 1, _ => exact ⟨by simpa [gx] using h2, by simpa [gy] using h3⟩
    | 2, _ => exact ⟨by simpa [gx] using h4, by simpa [gy] using h5⟩
  refine (pointsOk_any (some ⟨b, 0, none⟩) [(ax, ay), (bx, by_), (cx, cy)] 3 _ (fun _ => ⟨_, _, rfl, Nat.zero_le _, hb, hp⟩) (by simp)).mono ?_
  rintro e w1 ⟨rfl, hx⟩
  exact ⟨by simp [allok, pok3], hx⟩

end Go.Proofs.Ytjccilpjaaiicaa

namespace Go.Proofs.Ytjccilpjaaiicaa
open Go.RowKit

/-- the first k terms of twice the area -/
def areaTo (l : List (Int × Int)) : Nat → Int
  | 0 => 0
  | k + 1 => areaTo l k + (gx l k * gy l (nx l k) - gy l k * gx l (nx l k))
theorem areaTo_succ (l : List (Int × Int)) (k : Nat) : areaTo l (k + 1) = areaTo l k + (gx l k * gy l (nx l k) - gy l k * gx l (nx l k)) := rfl
/-- twice the area of a polygon, with a sign -/
def areaZ (l : List (Int × Int)) : Int := areaTo l l.length

/-- all points are valid, and there are at most ten -/
def Fine (l : List (Int × Int)) : Prop := allok l = true ∧ l.length ≤ 10

theorem Fine.pok {l : List (Int × Int)} (h : Fine l) {k : Nat} (hk : k < l.length) : pok (gx l k) (gy l k) = true := by
  have := List.all_eq_true.1 h.1 l[k] (List.getElem_mem hk)
  unfold gx gy
  rw [List.getD_eq_getElem?_getD, List.getElem?_eq_getElem hk]
  exact this

theorem Fine.bd {l : List (Int × Int)} (h : Fine l) {k : Nat} (hk : k < l.length) : (-40 ≤ gx l k ∧ gx l k ≤ 40) ∧ (-40 ≤ gy l k ∧ gy l k ≤ 40) := (pok_iff _ _).1 (h.pok hk)

theorem nx_lt {l : List (Int × Int)} {k : Nat} (h : k < l.length) : nx l k < l.length := Nat.mod_lt _ (by omega)

theorem Fine.prod {l : List (Int × Int)} (h : Fine l) {k j : Nat} (hk : k < l.length) (hj : j < l.length) : (-1600 ≤ gx l k * gy l j ∧ gx l k * gy l j ≤ 1600) ∧ (-1600 ≤ gy l k * gx l j ∧ gy l k * gx l j ≤ 1600) := by
  obtain ⟨⟨a1, a2⟩, a3, a4⟩ := h.bd hk
  obtain ⟨⟨b1, b2⟩, b3, b4⟩ := h.bd hj
  exact ⟨mul_bd _ _ 40 40 a1 a2 b3 b4, mul_bd _ _ 40 40 a3 a4 b1 b2⟩

theorem areaTo_bd {l : List (Int × Int)} (h : Fine l) : ∀ k, k ≤ l.length → -(3200 * (k : Int)) ≤ areaTo l k ∧ areaTo l k ≤ 3200 * (k : Int)
  | 0, _ => by simp [areaTo]
  | k + 1, hk => by
    have ih := areaTo_bd h k (by omega)
    have hp := h.prod (k := k) (j := nx l k) (by omega) (nx_lt (by omega))
    unfold areaTo
    omega

set_option maxRecDepth 100000 in
theorem area_any (A : Option Addr) (l : List (Int × Int)) (c : Nat) (w : World) (hp : RPts w A l) (hf : Fine l) :
    Calls Try.prog 32 #[.slice A l.length c] w fun e w' => e = .returned (.int .i64 (areaZ l)) ∧ Ext w w' := by
  have hn : l.length ≤ 1048576 := by have := hf.2; omega
  go_enter Try.func32, Try.ntmps32
  go_wp2_with (go_at_call 26; refine (wallsOf_any _ _ _ _ hp hn).mono ?_; rintro e w1 ⟨A', c', rfl, hr, hx⟩)
  go_loopw [3, 9] (fun s i wr => ∃ k : Nat, k ≤ l.length ∧ i = .int .i64 k ∧ Ext w wr ∧ RW wr A' l ∧ s = .int .i64 (areaTo l k)) (fun _ i _ => l.length - (intOf i).toNat)
  case atStart => exact ⟨0, Nat.zero_le _, rfl, hx, hr, rfl⟩
  case round =>
    obtain ⟨k, hk, rfl, hbl, hrr, rfl⟩ := hrel
    by_cases hlt : k < l.length
    · obtain ⟨g, rfl, hg, c1, c2, c3, c4⟩ := hrr k hlt
      obtain ⟨⟨p1, p2⟩, p3, p4⟩ := hf.prod hlt (nx_lt hlt)
      obtain ⟨t1, t2⟩ := areaTo_bd hf k hk
      have hten := hf.2
      go_wp2
      go_roundw
      case rel => exact ⟨k + 1, by omega, by go_num, by (repeat (first | exact Ext.refl _ | assumption | apply Ext.alloc | apply Ext.drew | apply Ext.drewN | (refine Ext.trans ?_ (by assumption)))), hrr.ext (by (repeat (first | exact Ext.refl _ | assumption | apply Ext.alloc | apply Ext.drew | apply Ext.drewN | (refine Ext.trans ?_ (by assumption))))), rfl⟩
      case measure => simp [intOf]; omega
    · have e : k = l.length := by omega
      have E := hide e
      clear e
      go_wp2
      go_ret
      exact ⟨ret_int (by rw [E.out]; rfl), hbl⟩

set_option maxRecDepth 100000 in
theorem sArea_any (A : Option Addr) (l : List (Int × Int)) (c : Nat) (w : World) (hp : RPts w A l) (hf : Fine l) :
    Calls Try.prog 56 #[.slice A l.length c] w fun e w' => e = .returned (.int .i64 (areaZ l)) ∧ Ext w w' := by
  have hn : l.length ≤ 1048576 := by have := hf.2; omega
  go_enter Try.func56, Try.ntmps56
  go_wp2
  go_loopw [3, 4] (fun s i wr => ∃ k : Nat, k ≤ l.length ∧ i = .int .i64 k ∧ Ext w wr ∧ s = .int .i64 (areaTo l k)) (fun _ i _ => l.length - (intOf i).toNat)
  case atStart => exact ⟨0, Nat.zero_le _, rfl, Ext.refl w, rfl⟩
  case round =>
    obtain ⟨k, hk, rfl, hbl, rfl⟩ := hrel
    by_cases hlt : k < l.length
    · have hnx : nx l k < l.length := Nat.mod_lt _ (by omega)
      obtain ⟨b, off, rfl, hz1, hx, hy⟩ := (hp.ext hbl).at_ hlt
      obtain ⟨b2, off2, hA2, hz2, hx2, hy2⟩ := (hp.ext hbl).at_ hnx
      injection hA2 with hA2
      injection hA2 with e1 e2 _
      subst e1 e2
      clear hz2
      obtain ⟨⟨p1, p2⟩, p3, p4⟩ := hf.prod hlt (nx_lt hlt)
      obtain ⟨t1, t2⟩ := areaTo_bd hf k hk
      have hten := hf.2
      unfold nx at hnx hx2 hy2
      obtain ⟨q1, q2, q3, q4, q5⟩ := idx_facts ((k : Int) + 1) (k + 1) l.length (by omega) (by omega) (by omega)
      clear q1 q2 q5
      go_wp2
      unfold nx at p1 p2 p3 p4
      have zz1 := wrap_in (gx l k * gy l ((k + 1) % l.length)) (by omega) (by omega)
      have zz2 := wrap_in (areaTo l k + gx l k * gy l ((k + 1) % l.length)) (by omega) (by omega)
      have zz3 := wrap_in (gy l k * gx l ((k + 1) % l.length)) (by omega) (by omega)
      have zz4 := wrap_in (areaTo l k + gx l k * gy l ((k + 1) % l.length) - gy l k * gx l ((k + 1) % l.length)) (by omega) (by omega)
      have hB : b < (wr.alloc (.cells #[.int .i64 (gx l ((k + 1) % l.length)), .int .i64 (gy l ((k + 1) % l.length))] 28)).heap.size := by simp; omega
      refine wp_flow_tail 19 (by kernel_rfl) (by kernel_rfl) (by kernel_rfl) (by kernel_rfl) (fun u => ⟨#[_, _, _, _, _, _, _, _, _, _, _, _, _, _, _, _, _, _, _, _, u 0, u 1, u 2, u 3, u 4, u 5, u 6, u 7, u 8, u 9, u 10, u 11, u 12, u 13, u 14, u 15, u 16, u 17, u 18, _], _⟩) (fun i => List.getD [_, _, _, _, _, _, _, _, _, _, _, _, _, _, _, _, _, _, _] i undef) [is ?v1_0, is ?v1_1, is ?v1_2, is ?v1_3, is ?v1_4, is ?v1_5, is ?v1_6, is ?v1_7, is ?v1_8, is ?v1_9, is ?v1_10, is ?v1_11, is ?v1_12, is ?v1_13, is ?v1_14, is ?v1_15, is ?v1_16, is ?v1_17, is ?v1_18] (fun w' => w'.cell? ⟨wr.heap.size, 0, none⟩ = some (.int .i64 (gx l ((k + 1) % l.length))) ∧ w'.cell? ⟨wr.heap.size, 1, none⟩ = some (.int .i64 (gy l ((k + 1) % l.length))) ∧ w'.cell? ⟨b, off + k * 2, none⟩ = some (.int .i64 (gx l k)) ∧ w'.cell? ⟨b, off + k * 2 + 1, none⟩ = some (.int .i64 (gy l k))) _ rfl ?hC1 ?hs1 ?hV1 ?fin1
      case hC1 => (intro w' hx; and_intros <;> (first | (refine (Eq.trans (hx.cells _ _ ?_) ?_) <;> first | assumption | omega | (simp; done) | (simp; omega) | (simp [go_sem, World.cell?_alloc_past, *]; done)) | (have hz := hx.size; first | omega | (simp at hz; omega))))
      case hs1 =>
        repeat' (first
          | exact FSteps.nil
          | refine FSteps.cons ?_ ?_
          | (refine FStep.off_ _ _ _ rfl rfl ?_ (fun _ => rfl) ?_; (focus (intro u w hd; simp [vOf, is, Region.binds] at hd; simp [hd])); (intro w'; exact rfl); done)
          | ((first
              | refine FStep.plain rfl ?_
              | (refine FStep.on_ _ _ _ rfl rfl ?_ ?_; (focus (intro u w hd; simp [vOf, is, Region.binds] at hd; simp [hd]))))
             intro u w hW hC hd K hK
             (try simp [vOf, is, Region.binds] at hd)
             simp only [upd, Nat.reduceEqDiff, if_true, if_false] at hK
             (try simp only [hd] at hK)
             go_simp
             (first
               | (refine hK _ _ ?_ ?_; (first | exact rfl); (repeat (first | exact Ext.refl _ | assumption | apply Ext.alloc | apply Ext.drew | apply Ext.drewN | (refine Ext.trans ?_ (by assumption))))))))
      case hV1 => (simp only [List.forall_mem_cons]; simp [stable_is])
      case fin1 =>
        intro u w2 hW2 hC2 hd
        simp only [AllV, is] at hd
        simp only [List.drop_succ_cons, List.drop_zero]
        simp only [hd]
        clear hd
        clear hC2 zz1 zz2 zz3 zz4 hx hy hx2 hy2
        go_wp2
        go_roundw
        case rel => exact ⟨k + 1, by omega, by go_num, by (repeat (first | exact Ext.refl _ | assumption | apply Ext.alloc | apply Ext.drew | apply Ext.drewN | (refine Ext.trans ?_ (by assumption)))), by rw [areaTo_succ]; unfold nx; congr 1; omega⟩
        case measure => simp [intOf]; omega
    · have e : k = l.length := by omega
      have E := hide e
      clear e
      go_wp2
      go_ret
      exact ⟨ret_int (by rw [E.out]; rfl), hbl⟩

end Go.Proofs.Ytjccilpjaaiicaa

namespace Go.Proofs.Ytjccilpjaaiicaa
open Go.RowKit

/-- a slice of three points in a block of its own -/
def SL3 (ax ay bx by_ cx cy : Int) (v : Value) (w : World) : Prop := ∃ b, v = .slice (some ⟨b, 0, none⟩) 3 3 ∧ b < w.heap.size ∧ w.cell? ⟨b, 0, none⟩ = some (.int .i64 ax) ∧ w.cell? ⟨b, 1, none⟩ = some (.int .i64 ay) ∧ w.cell? ⟨b, 2, none⟩ = some (.int .i64 bx) ∧ w.cell? ⟨b, 3, none⟩ = some (.int .i64 by_) ∧ w.cell? ⟨b, 4, none⟩ = some (.int .i64 cx) ∧ w.cell? ⟨b, 5, none⟩ = some (.int .i64 cy)

theorem SL3_stable (ax ay bx by_ cx cy : Int) : Stable (SL3 ax ay bx by_ cx cy) := by
  rintro v w w' ⟨b, rfl, hb, h⟩ hx
  refine ⟨b, rfl, Nat.lt_of_lt_of_le hb hx.size, ?_⟩
  simp only [hx.cells b _ hb]
  exact h

theorem SL3_mk {ax ay bx by_ cx cy : Int} (b : Nat) (w : World) (h : b < w.heap.size) (hc : w.cell? ⟨b, 0, none⟩ = some (.int .i64 ax) ∧ w.cell? ⟨b, 1, none⟩ = some (.int .i64 ay) ∧ w.cell? ⟨b, 2, none⟩ = some (.int .i64 bx) ∧ w.cell? ⟨b, 3, none⟩ = some (.int .i64 by_) ∧ w.cell? ⟨b, 4, none⟩ = some (.int .i64 cx) ∧ w.cell? ⟨b, 5, none⟩ = some (.int .i64 cy)) : SL3 ax ay bx by_ cx cy (.slice (some ⟨b, 0, none⟩) 3 3) w := ⟨b, rfl, h, hc⟩

theorem pointsOkS3 {ax ay bx by_ cx cy : Int} {v : Value} {w : World} (h : SL3 ax ay bx by_ cx cy v w) :
    Calls Try.prog 31 #[v] w fun e w' => e = .returned (.bool (pok3 ax ay bx by_ cx cy)) ∧ Ext w w' := by
  obtain ⟨b, rfl, hb, hc⟩ := h
  exact pointsOk3_any _ _ _ _ _ _ _ _ hb hc

end Go.Proofs.Ytjccilpjaaiicaa

namespace Go.Proofs.Ytjccilpjaaiicaa
open Go.RowKit

theorem sIsBetween_any (ax ay bx by_ cx cy : Int) (w : World) :
    Calls Try.prog 71 #[.agg #[.int .i64 ax, .int .i64 ay], .agg #[.int .i64 bx, .int .i64 by_], .agg #[.int .i64 cx, .int .i64 cy]] w fun e w' => e = .returned (.bool (BetV ax ay bx by_ cx cy)) ∧ Ext w w' := by
  have HB : Hid (∀ w', Ext (((w.alloc (.cells #[.int .i64 ax, .int .i64 ay] 28)).alloc (.cells #[.int .i64 bx, .int .i64 by_] 28)).alloc (.cells #[.int .i64 cx, .int .i64 cy] 28)) w' → w'.cell? ⟨w.heap.size, 0, none⟩ = some (.int .i64 ax) ∧ w'.cell? ⟨w.heap.size, 1, none⟩ = some (.int .i64 ay) ∧ w'.cell? ⟨w.heap.size + 1, 0, none⟩ = some (.int .i64 bx) ∧ w'.cell? ⟨w.heap.size + 1, 1, none⟩ = some (.int .i64 by_) ∧ w'.cell? ⟨w.heap.size + 1 + 1, 0, none⟩ = some (.int .i64 cx) ∧ w'.cell? ⟨w.heap.size + 1 + 1, 1, none⟩ = some (.int .i64 cy)) := fun w' hx => by
    and_intros <;> (((first | rw [hx.cells _ _ (by first | (simp; done) | (simp; omega))] | rw [hx.frozens _ _ (by first | (simp; done) | (simp; omega))]); (first | (simp [go_sem]; done) | (simp [go_sem, World.cell?_alloc_past]; done) | (simp [go_sem, World.frozen?]; done))))
  unfold BetV pok3
  cases ha : pok ax ay
  · go_enter Try.func71, Try.ntmps71
    go_wp2_with ((go_at_call 53; refine (spok_any _ _ _).mono ?_; rintro e w1 ⟨rfl, hb⟩; have hcc := HB.out w1 (by (repeat (first | exact Ext.refl _ | assumption | apply Ext.alloc | apply Ext.drew | apply Ext.drewN | (refine Ext.trans ?_ (by assumption)))))))
    go_ret
    exact ⟨rfl, by (repeat (first | exact Ext.refl _ | assumption | apply Ext.alloc | apply Ext.drew | apply Ext.drewN | (refine Ext.trans ?_ (by assumption))))⟩
  · cases hb' : pok bx by_
    · go_enter Try.func71, Try.ntmps71
      go_wp2_with ((go_at_call 53; refine (spok_any _ _ _).mono ?_; rintro e w1 ⟨rfl, hb⟩; have hcc := HB.out w1 (by (repeat (first | exact Ext.refl _ | assumption | apply Ext.alloc | apply Ext.drew | apply Ext.drewN | (refine Ext.trans ?_ (by assumption)))))))
      go_ret
      exact ⟨rfl, by (repeat (first | exact Ext.refl _ | assumption | apply Ext.alloc | apply Ext.drew | apply Ext.drewN | (refine Ext.trans ?_ (by assumption))))⟩
    · cases hc' : pok cx cy
      all_goals
        go_enter Try.func71, Try.ntmps71
        go_wp2_with (first | (go_at_call 53; refine (spok_any _ _ _).mono ?_; rintro e w1 ⟨rfl, hb⟩; have hcc := HB.out w1 (by (repeat (first | exact Ext.refl _ | assumption | apply Ext.alloc | apply Ext.drew | apply Ext.drewN | (refine Ext.trans ?_ (by assumption)))))) | (go_at_call 67; refine (sbet_any _ _ _ _ _ _ _).mono ?_; rintro e w1 ⟨rfl, hb⟩; have hcc := HB.out w1 (by (repeat (first | exact Ext.refl _ | assumption | apply Ext.alloc | apply Ext.drew | apply Ext.drewN | (refine Ext.trans ?_ (by assumption)))))))
        go_ret
        exact ⟨rfl, by (repeat (first | exact Ext.refl _ | assumption | apply Ext.alloc | apply Ext.drew | apply Ext.drewN | (refine Ext.trans ?_ (by assumption))))⟩

end Go.Proofs.Ytjccilpjaaiicaa

namespace Go.Proofs.Ytjccilpjaaiicaa
open Go.RowKit

theorem WallOk_any (a b c d : Int) (w : World) :
    Calls Try.prog 50 #[.agg #[.int .i64 a, .int .i64 b, .int .i64 c, .int .i64 d]] w fun e w' => e = .returned (.bool (wok a b c d)) ∧ Ext w w' := by
  have HB : Hid (∀ w', Ext (w.alloc (.cells #[.int .i64 a, .int .i64 b, .int .i64 c, .int .i64 d] 56)) w' → w'.cell? ⟨w.heap.size, 0, none⟩ = some (.int .i64 a) ∧ w'.cell? ⟨w.heap.size, 1, none⟩ = some (.int .i64 b) ∧ w'.cell? ⟨w.heap.size, 2, none⟩ = some (.int .i64 c) ∧ w'.cell? ⟨w.heap.size, 3, none⟩ = some (.int .i64 d)) := fun w' hx => by
    and_intros <;> (((first | rw [hx.cells _ _ (by first | (simp; done) | (simp; omega))] | rw [hx.frozens _ _ (by first | (simp; done) | (simp; omega))]); (first | (simp [go_sem]; done) | (simp [go_sem, World.cell?_alloc_past]; done) | (simp [go_sem, World.frozen?]; done))))
  unfold wok neB
  cases hp : pok2 a b c d
  · go_enter Try.func50, Try.ntmps50
    go_wp2_with ((go_at_call 31; refine (pointsOk2_any _ a b c d _ (by simp) (by simp [go_sem])).mono ?_; rintro e w1 ⟨rfl, hb⟩; have hcc := HB.out w1 (by (repeat (first | exact Ext.refl _ | assumption | apply Ext.alloc | apply Ext.drew | apply Ext.drewN | (refine Ext.trans ?_ (by assumption)))))))
    go_ret
    exact ⟨rfl, by (repeat (first | exact Ext.refl _ | assumption | apply Ext.alloc | apply Ext.drew | apply Ext.drewN | (refine Ext.trans ?_ (by assumption))))⟩
  · go_enter Try.func50, Try.ntmps50
    go_wp2_with ((go_at_call 31; refine (pointsOk2_any _ a b c d _ (by simp) (by simp [go_sem])).mono ?_; rintro e w1 ⟨rfl, hb⟩; have hcc := HB.out w1 (by (repeat (first | exact Ext.refl _ | assumption | apply Ext.alloc | apply Ext.drew | apply Ext.drewN | (refine Ext.trans ?_ (by assumption)))))))
    all_goals (go_ret; exact ⟨ret_bool (by simp [*]), by (repeat (first | exact Ext.refl _ | assumption | apply Ext.alloc | apply Ext.drew | apply Ext.drewN | (refine Ext.trans ?_ (by assumption))))⟩)

theorem sWallOk_any (a b c d : Int) (w : World) :
    Calls Try.prog 64 #[.agg #[.int .i64 a, .int .i64 b, .int .i64 c, .int .i64 d]] w fun e w' => e = .returned (.bool (wok a b c d)) ∧ Ext w w' := by
  have HB : Hid (∀ w', Ext (w.alloc (.cells #[.int .i64 a, .int .i64 b, .int .i64 c, .int .i64 d] 56)) w' → w'.cell? ⟨w.heap.size, 0, none⟩ = some (.int .i64 a) ∧ w'.cell? ⟨w.heap.size, 1, none⟩ = some (.int .i64 b) ∧ w'.cell? ⟨w.heap.size, 2, none⟩ = some (.int .i64 c) ∧ w'.cell? ⟨w.heap.size, 3, none⟩ = some (.int .i64 d)) := fun w' hx => by
    and_intros <;> (((first | rw [hx.cells _ _ (by first | (simp; done) | (simp; omega))] | rw [hx.frozens _ _ (by first | (simp; done) | (simp; omega))]); (first | (simp [go_sem]; done) | (simp [go_sem, World.cell?_alloc_past]; done) | (simp [go_sem, World.frozen?]; done))))
  unfold wok neB pok2
  cases h1 : pok a b
  · go_enter Try.func64, Try.ntmps64
    go_wp2_with ((go_at_call 53; refine (spok_any _ _ _).mono ?_; rintro e w1 ⟨rfl, hb⟩; have hcc := HB.out w1 (by (repeat (first | exact Ext.refl _ | assumption | apply Ext.alloc | apply Ext.drew | apply Ext.drewN | (refine Ext.trans ?_ (by assumption)))))))
    all_goals (go_ret; exact ⟨ret_bool (by simp [*]), by (repeat (first | exact Ext.refl _ | assumption | apply Ext.alloc | apply Ext.drew | apply Ext.drewN | (refine Ext.trans ?_ (by assumption))))⟩)
  · cases h2 : pok c d
    all_goals
      go_enter Try.func64, Try.ntmps64
      go_wp2_with ((go_at_call 53; refine (spok_any _ _ _).mono ?_; rintro e w1 ⟨rfl, hb⟩; have hcc := HB.out w1 (by (repeat (first | exact Ext.refl _ | assumption | apply Ext.alloc | apply Ext.drew | apply Ext.drewN | (refine Ext.trans ?_ (by assumption)))))))
      all_goals (go_ret; exact ⟨ret_bool (by simp [*]), by (repeat (first | exact Ext.refl _ | assumption | apply Ext.alloc | apply Ext.drew | apply Ext.drewN | (refine Ext.trans ?_ (by assumption))))⟩)

end Go.Proofs.Ytjccilpjaaiicaa

namespace Go.Proofs.Ytjccilpjaaiicaa
open Go.RowKit

def sgn (x : Int) : Int := if 0 < x then 1 else if x < 0 then -1 else 0

theorem sgn_mul_bd (a b : Int) : -1 ≤ sgn a * sgn b ∧ sgn a * sgn b ≤ 1 := by
  unfold sgn
  split <;> split <;> (try split) <;> (try split) <;> simp

theorem sgn_mul_wrap (a b : Int) : IntKind.i64.wrap (sgn a * sgn b) = sgn a * sgn b := by
  have := sgn_mul_bd a b
  exact wrap_in _ (by omega) (by omega)

theorem sign_any (n : Int) (w : World) : Calls Try.prog 47 #[.int .i64 n] w fun e w' => e = .returned (.int .i64 (sgn n)) ∧ w = w' := by
  go_enter Try.func47, Try.ntmps47
  go_wp2
  all_goals (go_ret; refine ⟨ret_int ?_, rfl⟩; unfold sgn; (repeat' split) <;> omega)

theorem l03Sign_any (n : Int) (w : World) : Calls Try.prog 82 #[.int .i64 n] w fun e w' => e = .returned (.int .i64 (sgn n)) ∧ w = w' := by
  go_enter Try.func82, Try.ntmps82
  go_wp2
  all_goals (go_ret; refine ⟨ret_int ?_, rfl⟩; unfold sgn; (repeat' split) <;> omega)

/-- do the ends of the second wall lie on two sides of the first -/
def sideB (ax ay bx by_ cx cy dx dy : Int) : Bool := decide (sgn (turnW ax ay bx by_ cx cy) * sgn (turnW ax ay bx by_ dx dy) < 0)
/-- the walls ab and cd cross -/
def crossB (ax ay bx by_ cx cy dx dy : Int) : Bool := sideB cx cy dx dy ax ay bx by_ && sideB ax ay bx by_ cx cy dx dy

set_option maxRecDepth 100000 in
set_option maxHeartbeats 1600000 in
theorem crosses_no (ax ay bx by_ cx cy dx dy : Int) (w : World) (h : sideB cx cy dx dy ax ay bx by_ = false) :
    Calls Try.prog 27 #[.agg #[.int .i64 ax, .int .i64 ay, .int .i64 bx, .int .i64 by_], .agg #[.int .i64 cx, .int .i64 cy, .int .i64 dx, .int .i64 dy]] w fun e w' => e = .returned (.bool false) ∧ Ext w w' := by
  have HB : Hid (∀ w', Ext ((w.alloc (.cells #[.int .i64 ax, .int .i64 ay, .int .i64 bx, .int .i64 by_] 56)).alloc (.cells #[.int .i64 cx, .int .i64 cy, .int .i64 dx, .int .i64 dy] 56)) w' → w'.cell? ⟨w.heap.size, 0, none⟩ = some (.int .i64 ax) ∧ w'.cell? ⟨w.heap.size, 1, none⟩ = some (.int .i64 ay) ∧ w'.cell? ⟨w.heap.size, 2, none⟩ = some (.int .i64 bx) ∧ w'.cell? ⟨w.heap.size, 3, none⟩ = some (.int .i64 by_) ∧ w'.cell? ⟨w.heap.size + 1, 0, none⟩ = some (.int .i64 cx) ∧ w'.cell? ⟨w.heap.size + 1, 1, none⟩ = some (.int .i64 cy) ∧ w'.cell? ⟨w.heap.size + 1, 2, none⟩ = some (.int .i64 dx) ∧ w'.cell? ⟨w.heap.size + 1, 3, none⟩ = some (.int .i64 dy)) := fun w' hx => by
    and_intros <;> (((first | rw [hx.cells _ _ (by first | (simp; done) | (simp; omega))] | rw [hx.frozens _ _ (by first | (simp; done) | (simp; omega))]); (first | (simp [go_sem]; done) | (simp [go_sem, World.cell?_alloc_past]; done) | (simp [go_sem, World.frozen?]; done))))
  unfold sideB at h
  have q1 := sgn_mul_wrap (turnW cx cy dx dy ax ay) (turnW cx cy dx dy bx by_)
  go_enter Try.func27, Try.ntmps27
  go_wp2
  refine wp_flow (by kernel_rfl) (by kernel_rfl) (fun u => ⟨#[_, _, _, _, u 38, u 0, u 1, u 2, u 3, u 4, u 5, u 6, u 7, u 8, u 9, u 10, u 11, u 12, u 13, u 14, u 15, u 16, u 17, u 18, u 19, u 20, u 21, u 22, u 23, u 24, u 25, u 26, u 27, u 28, u 29, u 30, u 31, u 32, u 33, u 34, u 35, u 36, u 37], _⟩) (fun i => List.getD [_, _, _, _, _, _, _, _, _, _, _, _, _, _, _, _, _, _, _, _, _, _, _, _, _, _, _, _, _, _, _, _, _, _, _, _, _, _, _] i undef) [is ?v1_0, is ?v1_1, is ?v1_2, is ?v1_3, is ?v1_4, is ?v1_5, is ?v1_6, is ?v1_7, is ?v1_8, is ?v1_9, is ?v1_10, is ?v1_11, is ?v1_12, is ?v1_13, is ?v1_14, is ?v1_15, is ?v1_16, is ?v1_17, is ?v1_18, is ?v1_19, is ?v1_20, is ?v1_21, is ?v1_22, is ?v1_23, is ?v1_24, is ?v1_25, is ?v1_26, is ?v1_27, is ?v1_28, is ?v1_29, is ?v1_30, is ?v1_31, is ?v1_32, is ?v1_33, is ?v1_34, is ?v1_35, is ?v1_36, is ?v1_37, is ?v1_38] (fun w' => w'.cell? ⟨w.heap.size, 0, none⟩ = some (.int .i64 ax) ∧ w'.cell? ⟨w.heap.size, 1, none⟩ = some (.int .i64 ay) ∧ w'.cell? ⟨w.heap.size, 2, none⟩ = some (.int .i64 bx) ∧ w'.cell? ⟨w.heap.size, 3, none⟩ = some (.int .i64 by_) ∧ w'.cell? ⟨w.heap.size + 1, 0, none⟩ = some (.int .i64 cx) ∧ w'.cell? ⟨w.heap.size + 1, 1, none⟩ = some (.int .i64 cy) ∧ w'.cell? ⟨w.heap.size + 1, 2, none⟩ = some (.int .i64 dx) ∧ w'.cell? ⟨w.heap.size + 1, 3, none⟩ = some (.int .i64 dy)) _ rfl ?hC1 ?hs1 ?hV1 ?fin1
  case hC1 => exact HB.out
  case hs1 =>
    repeat' (first
      | exact FSteps.nil
      | refine FSteps.cons ?_ ?_
      | (refine FStep.off_ _ _ _ rfl rfl ?_ (fun _ => rfl) ?_; (focus (intro u w hd; simp [vOf, is, Region.binds] at hd; simp [hd])); (intro w'; exact rfl); done)
      | ((first
          | refine FStep.plain rfl ?_
          | (refine FStep.on_ _ _ _ rfl rfl ?_ ?_; (focus (intro u w hd; simp [vOf, is, Region.binds] at hd; simp [hd]))))
         intro u w hW hC hd K hK
         (try simp [vOf, is, Region.binds] at hd)
         simp only [upd, Nat.reduceEqDiff, if_true, if_false] at hK
         (try simp only [hd] at hK)
         go_simp
         (first
           | (refine hK _ _ ?_ ?_; (first | exact rfl); (repeat (first | exact Ext.refl _ | assumption | apply Ext.alloc | apply Ext.drew | apply Ext.drewN | (refine Ext.trans ?_ (by assumption)))))
           | (go_at_call 34; refine (turn_any _ _ _ _ _ _ _).mono ?_; rintro e w1 ⟨rfl, hb⟩; (try go_simp); refine hK _ _ ?_ ?_; (first | exact rfl); (repeat (first | exact Ext.refl _ | assumption | apply Ext.alloc | apply Ext.drew | apply Ext.drewN | (refine Ext.trans ?_ (by assumption)))))
           | (go_at_call 47; refine (sign_any _ _).mono ?_; rintro e w1 ⟨rfl, rfl⟩; (try go_simp); refine hK _ _ ?_ ?_; exact rfl; exact Ext.refl _))))
  case hV1 => (simp only [List.forall_mem_cons]; simp [stable_is])
  case fin1 =>
    intro u w2 hW2 hC2 hd
    simp only [AllV, is] at hd
    simp only [hd]
    clear hd
    go_wp2
    go_ret
    exact ⟨rfl, by (repeat (first | exact Ext.refl _ | assumption | apply Ext.alloc | apply Ext.drew | apply Ext.drewN | (refine Ext.trans ?_ (by assumption))))⟩

set_option maxRecDepth 100000 in
set_option maxHeartbeats 1600000 in
theorem crosses_yes (ax ay bx by_ cx cy dx dy : Int) (w : World) (h : sideB cx cy dx dy ax ay bx by_ = true) :
    Calls Try.prog 27 #[.agg #[.int .i64 ax, .int .i64 ay, .int .i64 bx, .int .i64 by_], .agg #[.int .i64 cx, .int .i64 cy, .int .i64 dx, .int .i64 dy]] w fun e w' => e = .returned (.bool (sideB ax ay bx by_ cx cy dx dy)) ∧ Ext w w' := by
  have HB : Hid (∀ w', Ext ((w.alloc (.cells #[.int .i64 ax, .int .i64 ay, .int .i64 bx, .int .i64 by_] 56)).alloc (.cells #[.int .i64 cx, .int .i64 cy, .int .i64 dx, .int .i64 dy] 56)) w' → w'.cell? ⟨w.heap.size, 0, none⟩ = some (.int .i64 ax) ∧ w'.cell? ⟨w.heap.size, 1, none⟩ = some (.int .i64 ay) ∧ w'.cell? ⟨w.heap.size, 2, none⟩ = some (.int .i64 bx) ∧ w'.cell? ⟨w.heap.size, 3, none⟩ = some (.int .i64 by_) ∧ w'.cell? ⟨w.heap.size + 1, 0, none⟩ = some (.int .i64 cx) ∧ w'.cell? ⟨w.heap.size + 1, 1, none⟩ = some (.int .i64 cy) ∧ w'.cell? ⟨w.heap.size + 1, 2, none⟩ = some (.int .i64 dx) ∧ w'.cell? ⟨w.heap.size + 1, 3, none⟩ = some (.int .i64 dy)) := fun w' hx => by
    and_intros <;> (((first | rw [hx.cells _ _ (by first | (simp; done) | (simp; omega))] | rw [hx.frozens _ _ (by first | (simp; done) | (simp; omega))]); (first | (simp [go_sem]; done) | (simp [go_sem, World.cell?_alloc_past]; done) | (simp [go_sem, World.frozen?]; done))))
  unfold sideB at h
  have q1 := sgn_mul_wrap (turnW cx cy dx dy ax ay) (turnW cx cy dx dy bx by_)
  have q2 := sgn_mul_wrap (turnW ax ay bx by_ cx cy) (turnW ax ay bx by_ dx dy)
  go_enter Try.func27, Try.ntmps27
  go_wp2
  refine wp_flow (by kernel_rfl) (by kernel_rfl) (fun u => ⟨#[_, _, _, _, u 38, u 0, u 1, u 2, u 3, u 4, u 5, u 6, u 7, u 8, u 9, u 10, u 11, u 12, u 13, u 14, u 15, u 16, u 17, u 18, u 19, u 20, u 21, u 22, u 23, u 24, u 25, u 26, u 27, u 28, u 29, u 30, u 31, u 32, u 33, u 34, u 35, u 36, u 37], _⟩) (fun i => List.getD [_, _, _, _, _, _, _, _, _, _, _, _, _, _, _, _, _, _, _, _, _, _, _, _, _, _, _, _, _, _, _, _, _, _, _, _, _, _, _] i undef) [is ?v2_0, is ?v2_1, is ?v2_2, is ?v2_3, is ?v2_4, is ?v2_5, is ?v2_6, is ?v2_7, is ?v2_8, is ?v2_9, is ?v2_10, is ?v2_11, is ?v2_12, is ?v2_13, is ?v2_14, is ?v2_15, is ?v2_16, is ?v2_17, is ?v2_18, is ?v2_19, is ?v2_20, is ?v2_21, is ?v2_22, is ?v2_23, is ?v2_24, is ?v2_25, is ?v2_26, is ?v2_27, is ?v2_28, is ?v2_29, is ?v2_30, is ?v2_31, is ?v2_32, is ?v2_33, is ?v2_34, is ?v2_35, is ?v2_36, is ?v2_37, is ?v2_38] (fun w' => w'.cell? ⟨w.heap.size, 0, none⟩ = some (.int .i64 ax) ∧ w'.cell? ⟨w.heap.size, 1, none⟩ = some (.int .i64 ay) ∧ w'.cell? ⟨w.heap.size, 2, none⟩ = some (.int .i64 bx) ∧ w'.cell? ⟨w.heap.size, 3, none⟩ = some (.int .i64 by_) ∧ w'.cell? ⟨w.heap.size + 1, 0, none⟩ = some (.int .i64 cx) ∧ w'.cell? ⟨w.heap.size + 1, 1, none⟩ = some (.int .i64 cy) ∧ w'.cell? ⟨w.heap.size + 1, 2, none⟩ = some (.int .i64 dx) ∧ w'.cell? ⟨w.heap.size + 1, 3, none⟩ = some (.int .i64 dy)) _ rfl ?hC2 ?hs2 ?hV2 ?fin2
  case hC2 => exact HB.out
  case hs2 =>
    repeat' (first
      | exact FSteps.nil
      | refine FSteps.cons ?_ ?_
      | (refine FStep.off_ _ _ _ rfl rfl ?_ (fun _ => rfl) ?_; (focus (intro u w hd; simp [vOf, is, Region.binds] at hd; simp [hd])); (intro w'; exact rfl); done)
      | ((first
          | refine FStep.plain rfl ?_
          | (refine FStep.on_ _ _ _ rfl rfl ?_ ?_; (focus (intro u w hd; simp [vOf, is, Region.binds] at hd; simp [hd]))))
         intro u w hW hC hd K hK
         (try simp [vOf, is, Region.binds] at hd)
         simp only [upd, Nat.reduceEqDiff, if_true, if_false] at hK
         (try simp only [hd] at hK)
         go_simp
         (first
           | (refine hK _ _ ?_ ?_; (first | exact rfl); (repeat (first | exact Ext.refl _ | assumption | apply Ext.alloc | apply Ext.drew | apply Ext.drewN | (refine Ext.trans ?_ (by assumption)))))
           | (go_at_call 34; refine (turn_any _ _ _ _ _ _ _).mono ?_; rintro e w1 ⟨rfl, hb⟩; (try go_simp); refine hK _ _ ?_ ?_; (first | exact rfl); (repeat (first | exact Ext.refl _ | assumption | apply Ext.alloc | apply Ext.drew | apply Ext.drewN | (refine Ext.trans ?_ (by assumption)))))
           | (go_at_call 47; refine (sign_any _ _).mono ?_; rintro e w1 ⟨rfl, rfl⟩; (try go_simp); refine hK _ _ ?_ ?_; exact rfl; exact Ext.refl _))))
  case hV2 => (simp only [List.forall_mem_cons]; simp [stable_is])
  case fin2 =>
    intro u w2 hW2 hC2 hd
    simp only [AllV, is] at hd
    simp only [hd]
    clear hd
    go_wp2
    go_ret
    exact ⟨rfl, by (repeat (first | exact Ext.refl _ | assumption | apply Ext.alloc | apply Ext.drew | apply Ext.drewN | (refine Ext.trans ?_ (by assumption))))⟩

theorem crosses_any (ax ay bx by_ cx cy dx dy : Int) (w : World) :
    Calls Try.prog 27 #[.agg #[.int .i64 ax, .int .i64 ay, .int .i64 bx, .int .i64 by_], .agg #[.int .i64 cx, .int .i64 cy, .int .i64 dx, .int .i64 dy]] w fun e w' => e = .returned (.bool (crossB ax ay bx by_ cx cy dx dy)) ∧ Ext w w' := by
  unfold crossB
  cases h : sideB cx cy dx dy ax ay bx by_ with
  | false => exact crosses_no _ _ _ _ _ _ _ _ _ h
  | true => exact crosses_yes _ _ _ _ _ _ _ _ _ h

set_option maxRecDepth 100000 in
set_option maxHeartbeats 1600000 in
theorem l03Cross_no (ax ay bx by_ cx cy dx dy : Int) (w : World) (h : sideB ax ay bx by_ cx cy dx dy = false) :
    Calls Try.prog 70 #[.agg #[.int .i64 ax, .int .i64 ay], .agg #[.int .i64 bx, .int .i64 by_], .agg #[.int .i64 cx, .int .i64 cy], .agg #[.int .i64 dx, .int .i64 dy]] w fun e w' => e = .returned (.bool false) ∧ Ext w w' := by
  have HB : Hid (∀ w', Ext ((((w.alloc (.cells #[.int .i64 ax, .int .i64 ay] 28)).alloc (.cells #[.int .i64 bx, .int .i64 by_] 28)).alloc (.cells #[.int .i64 cx, .int .i64 cy] 28)).alloc (.cells #[.int .i64 dx, .int .i64 dy] 28)) w' → w'.cell? ⟨w.heap.size, 0, none⟩ = some (.int .i64 ax) ∧ w'.cell? ⟨w.heap.size, 1, none⟩ = some (.int .i64 ay) ∧ w'.cell? ⟨w.heap.size + 1, 0, none⟩ = some (.int .i64 bx) ∧ w'.cell? ⟨w.heap.size + 1, 1, none⟩ = some (.int .i64 by_) ∧ w'.cell? ⟨w.heap.size + 1 + 1, 0, none⟩ = some (.int .i64 cx) ∧ w'.cell? ⟨w.heap.size + 1 + 1, 1, none⟩ = some (.int .i64 cy) ∧ w'.cell? ⟨w.heap.size + 1 + 1 + 1, 0, none⟩ = some (.int .i64 dx) ∧ w'.cell? ⟨w.heap.size + 1 + 1 + 1, 1, none⟩ = some (.int .i64 dy)) := fun w' hx => by
    and_intros <;> (((first | rw [hx.cells _ _ (by first | (simp; done) | (simp; omega))] | rw [hx.frozens _ _ (by first | (simp; done) | (simp; omega))]); (first | (simp [go_sem]; done) | (simp [go_sem, World.cell?_alloc_past]; done) | (simp [go_sem, World.frozen?]; done))))
  unfold sideB at h
  have q2 := sgn_mul_wrap (turnW ax ay bx by_ cx cy) (turnW ax ay bx by_ dx dy)
  go_enter Try.func70, Try.ntmps70
  go_wp2
  refine wp_flow (by kernel_rfl) (by kernel_rfl) (fun u => ⟨#[_, _, _, _, _, _, _, _, u 26, u 0, u 1, u 2, u 3, u 4, u 5, u 6, u 7, u 8, u 9, u 10, u 11, u 12, u 13, u 14, u 15, u 16, u 17, u 18, u 19, u 20, u 21, u 22, u 23, u 24, u 25], _⟩) (fun i => List.getD [_, _, _, _, _, _, _, _, _, _, _, _, _, _, _, _, _, _, _, _, _, _, _, _, _, _, _] i undef) [is ?v3_0, is ?v3_1, is ?v3_2, is ?v3_3, is ?v3_4, is ?v3_5, is ?v3_6, is ?v3_7, is ?v3_8, is ?v3_9, is ?v3_10, is ?v3_11, is ?v3_12, is ?v3_13, is ?v3_14, is ?v3_15, is ?v3_16, is ?v3_17, is ?v3_18, is ?v3_19, is ?v3_20, is ?v3_21, is ?v3_22, is ?v3_23, is ?v3_24, is ?v3_25, is ?v3_26] (fun w' => w'.cell? ⟨w.heap.size, 0, none⟩ = some (.int .i64 ax) ∧ w'.cell? ⟨w.heap.size, 1, none⟩ = some (.int .i64 ay) ∧ w'.cell? ⟨w.heap.size + 1, 0, none⟩ = some (.int .i64 bx) ∧ w'.cell? ⟨w.heap.size + 1, 1, none⟩ = some (.int .i64 by_) ∧ w'.cell? ⟨w.heap.size + 1 + 1, 0, none⟩ = some (.int .i64 cx) ∧ w'.cell? ⟨w.heap.size + 1 + 1, 1, none⟩ = some (.int .i64 cy) ∧ w'.cell? ⟨w.heap.size + 1 + 1 + 1, 0, none⟩ = some (.int .i64 dx) ∧ w'.cell? ⟨w.heap.size + 1 + 1 + 1, 1, none⟩ = some (.int .i64 dy)) _ rfl ?hC3 ?hs3 ?hV3 ?fin3
  case hC3 => exact HB.out
  case hs3 =>
    repeat' (first
      | exact FSteps.nil
      | refine FSteps.cons ?_ ?_
      | (refine FStep.off_ _ _ _ rfl rfl ?_ (fun _ => rfl) ?_; (focus (intro u w hd; simp [vOf, is, Region.binds] at hd; simp [hd])); (intro w'; exact rfl); done)
      | ((first
          | refine FStep.plain rfl ?_
          | (refine FStep.on_ _ _ _ rfl rfl ?_ ?_; (focus (intro u w hd; simp [vOf, is, Region.binds] at hd; simp [hd]))))
         intro u w hW hC hd K hK
         (try simp [vOf, is, Region.binds] at hd)
         simp only [upd, Nat.reduceEqDiff, if_true, if_false] at hK
         (try simp only [hd] at hK)
         go_simp
         (first
           | (refine hK _ _ ?_ ?_; (first | exact rfl); (repeat (first | exact Ext.refl _ | assumption | apply Ext.alloc | apply Ext.drew | apply Ext.drewN | (refine Ext.trans ?_ (by assumption)))))
           | (go_at_call 54; refine (sturn_any _ _ _ _ _ _ _).mono ?_; rintro e w1 ⟨rfl, hb⟩; (try go_simp); refine hK _ _ ?_ ?_; (first | exact rfl); (repeat (first | exact Ext.refl _ | assumption | apply Ext.alloc | apply Ext.drew | apply Ext.drewN | (refine Ext.trans ?_ (by assumption)))))
           | (go_at_call 82; refine (l03Sign_any _ _).mono ?_; rintro e w1 ⟨rfl, rfl⟩; (try go_simp); refine hK _ _ ?_ ?_; exact rfl; exact Ext.refl _))))
  case hV3 => (simp only [List.forall_mem_cons]; simp [stable_is])
  case fin3 =>
    intro u w2 hW2 hC2 hd
    simp only [AllV, is] at hd
    simp only [hd]
    clear hd
    go_wp2
    go_ret
    exact ⟨rfl, by (repeat (first | exact Ext.refl _ | assumption | apply Ext.alloc | apply Ext.drew | apply Ext.drewN | (refine Ext.trans ?_ (by assumption))))⟩

set_option maxRecDepth 100000 in
set_option maxHeartbeats 1600000 in
theorem l03Cross_yes (ax ay bx by_ cx cy dx dy : Int) (w : World) (h : sideB ax ay bx by_ cx cy dx dy = true) :
    Calls Try.prog 70 #[.agg #[.int .i64 ax, .int .i64 ay], .agg #[.int .i64 bx, .int .i64 by_], .agg #[.int .i64 cx, .int .i64 cy], .agg #[.int .i64 dx, .int .i64 dy]] w fun e w' => e = .returned (.bool (sideB cx cy dx dy ax ay bx by_)) ∧ Ext w w' := by
  have HB : Hid (∀ w', Ext ((((w.alloc (.cells #[.int .i64 ax, .int .i64 ay] 28)).alloc (.cells #[.int .i64 bx, .int .i64 by_] 28)).alloc (.cells #[.int .i64 cx, .int .i64 cy] 28)).alloc (.cells #[.int .i64 dx, .int .i64 dy] 28)) w' → w'.cell? ⟨w.heap.size, 0, none⟩ = some (.int .i64 ax) ∧ w'.cell? ⟨w.heap.size, 1, none⟩ = some (.int .i64 ay) ∧ w'.cell? ⟨w.heap.size + 1, 0, none⟩ = some (.int .i64 bx) ∧ w'.cell? ⟨w.heap.size + 1, 1, none⟩ = some (.int .i64 by_) ∧ w'.cell? ⟨w.heap.size + 1 + 1, 0, none⟩ = some (.int .i64 cx) ∧ w'.cell? ⟨w.heap.size + 1 + 1, 1, none⟩ = some (.int .i64 cy) ∧ w'.cell? ⟨w.heap.size + 1 + 1 + 1, 0, none⟩ = some (.int .i64 dx) ∧ w'.cell? ⟨w.heap.size + 1 + 1 + 1, 1, none⟩ = some (.int .i64 dy)) := fun w' hx => by
    and_intros <;> (((first | rw [hx.cells _ _ (by first | (simp; done) | (simp; omega))] | rw [hx.frozens _ _ (by first | (simp; done) | (simp; omega))]); (first | (simp [go_sem]; done) | (simp [go_sem, World.cell?_alloc_past]; done) | (simp [go_sem, World.frozen?]; done))))
  unfold sideB at h
  have q1 := sgn_mul_wrap (turnW cx cy dx dy ax ay) (turnW cx cy dx dy bx by_)
  have q2 := sgn_mul_wrap (turnW ax ay bx by_ cx cy) (turnW ax ay bx by_ dx dy)
  go_enter Try.func70, Try.ntmps70
  go_wp2
  refine wp_flow (by kernel_rfl) (by kernel_rfl) (fun u => ⟨#[_, _, _, _, _, _, _, _, u 26, u 0, u 1, u 2, u 3, u 4, u 5, u 6, u 7, u 8, u 9, u 10, u 11, u 12, u 13, u 14, u 15, u 16, u 17, u 18, u 19, u 20, u 21, u 22, u 23, u 24, u 25], _⟩) (fun i => List.getD [_, _, _, _, _, _, _, _, _, _, _, _, _, _, _, _, _, _, _, _, _, _, _, _, _, _, _] i undef) [is ?v4_0, is ?v4_1, is ?v4_2, is ?v4_3, is ?v4_4, is ?v4_5, is ?v4_6, is ?v4_7, is ?v4_8, is ?v4_9, is ?v4_10, is ?v4_11, is ?v4_12, is ?v4_13, is ?v4_14, is ?v4_15, is ?v4_16, is ?v4_17, is ?v4_18, is ?v4_19, is ?v4_20, is ?v4_21, is ?v4_22, is ?v4_23, is ?v4_24, is ?v4_25, is ?v4_26] (fun w' => w'.cell? ⟨w.heap.size, 0, none⟩ = some (.int .i64 ax) ∧ w'.cell? ⟨w.heap.size, 1, none⟩ = some (.int .i64 ay) ∧ w'.cell? ⟨w.heap.size + 1, 0, none⟩ = some (.int .i64 bx) ∧ w'.cell? ⟨w.heap.size + 1, 1, none⟩ = some (.int .i64 by_) ∧ w'.cell? ⟨w.heap.size + 1 + 1, 0, none⟩ = some (.int .i64 cx) ∧ w'.cell? ⟨w.heap.size + 1 + 1, 1, none⟩ = some (.int .i64 cy) ∧ w'.cell? ⟨w.heap.size + 1 + 1 + 1, 0, none⟩ = some (.int .i64 dx) ∧ w'.cell? ⟨w.heap.size + 1 + 1 + 1, 1, none⟩ = some (.int .i64 dy)) _ rfl ?hC4 ?hs4 ?hV4 ?fin4
  case hC4 => exact HB.out
  case hs4 =>
    repeat' (first
      | exact FSteps.nil
      | refine FSteps.cons ?_ ?_
      | (refine FStep.off_ _ _ _ rfl rfl ?_ (fun _ => rfl) ?_; (focus (intro u w hd; simp [vOf, is, Region.binds] at hd; simp [hd])); (intro w'; exact rfl); done)
      | ((first
          | refine FStep.plain rfl ?_
          | (refine FStep.on_ _ _ _ rfl rfl ?_ ?_; (focus (intro u w hd; simp [vOf, is, Region.binds] at hd; simp [hd]))))
         intro u w hW hC hd K hK
         (try simp [vOf, is, Region.binds] at hd)
         simp only [upd, Nat.reduceEqDiff, if_true, if_false] at hK
         (try simp only [hd] at hK)
         go_simp
         (first
           | (refine hK _ _ ?_ ?_; (first | exact rfl); (repeat (first | exact Ext.refl _ | assumption | apply Ext.alloc | apply Ext.drew | apply Ext.drewN | (refine Ext.trans ?_ (by assumption)))))
           | (go_at_call 54; refine (sturn_any _ _ _ _ _ _ _).mono ?_; rintro e w1 ⟨rfl, hb⟩; (try go_simp); refine hK _ _ ?_ ?_; (first | exact rfl); (repeat (first | exact Ext.refl _ | assumption | apply Ext.alloc | apply Ext.drew | apply Ext.drewN | (refine Ext.trans ?_ (by assumption)))))
           | (go_at_call 82; refine (l03Sign_any _ _).mono ?_; rintro e w1 ⟨rfl, rfl⟩; (try go_simp); refine hK _ _ ?_ ?_; exact rfl; exact Ext.refl _))))
  case hV4 => (simp only [List.forall_mem_cons]; simp [stable_is])
  case fin4 =>
    intro u w2 hW2 hC2 hd
    simp only [AllV, is] at hd
    simp only [hd]
    clear hd
    go_wp2
    go_ret
    exact ⟨rfl, by (repeat (first | exact Ext.refl _ | assumption | apply Ext.alloc | apply Ext.drew | apply Ext.drewN | (refine Ext.trans ?_ (by assumption))))⟩

theorem l03Cross_any (ax ay bx by_ cx cy dx dy : Int) (w : World) :
    Calls Try.prog 70 #[.agg #[.int .i64 ax, .int .i64 ay], .agg #[.int .i64 bx, .int .i64 by_], .agg #[.int .i64 cx, .int .i64 cy], .agg #[.int .i64 dx, .int .i64 dy]] w fun e w' => e = .returned (.bool (crossB ax ay bx by_ cx cy dx dy)) ∧ Ext w w' := by
  unfold crossB
  rw [Bool.and_comm]
  cases h : sideB ax ay bx by_ cx cy dx dy with
  | false => exact l03Cross_no _ _ _ _ _ _ _ _ _ h
  | true => exact l03Cross_yes _ _ _ _ _ _ _ _ _ h

end Go.Proofs.Ytjccilpjaaiicaa

namespace Go.Proofs.Ytjccilpjaaiicaa
open Go.RowKit

def onWallV (a b c d px py : Int) : Bool := wok a b c d && BetV px py a b c d
def doCrossV (ax ay bx by_ cx cy dx dy : Int) : Bool := wok ax ay bx by_ && (wok cx cy dx dy && crossB ax ay bx by_ cx cy dx dy)
/-- DoMeet, as both texts give it -/
def meetV (ax ay bx by_ cx cy dx dy : Int) : Bool :=
  wok ax ay bx by_ && (wok cx cy dx dy && (crossB ax ay bx by_ cx cy dx dy || (onW ax ay cx cy dx dy || (onW bx by_ cx cy dx dy || (onW cx cy ax ay bx by_ || onW dx dy ax ay bx by_)))))

theorem sIsOnWall_any (a b c d px py : Int) (w : World) :
    Calls Try.prog 66 #[.agg #[.int .i64 a, .int .i64 b, .int .i64 c, .int .i64 d], .agg #[.int .i64 px, .int .i64 py]] w fun e w' => e = .returned (.bool (onWallV a b c d px py)) ∧ Ext w w' := by
  have HB : Hid (∀ w', Ext ((w.alloc (.cells #[.int .i64 a, .int .i64 b, .int .i64 c, .int .i64 d] 56)).alloc (.cells #[.int .i64 px, .int .i64 py] 28)) w' → w'.cell? ⟨w.heap.size, 0, none⟩ = some (.int .i64 a) ∧ w'.cell? ⟨w.heap.size, 1, none⟩ = some (.int .i64 b) ∧ w'.cell? ⟨w.heap.size, 2, none⟩ = some (.int .i64 c) ∧ w'.cell? ⟨w.heap.size, 3, none⟩ = some (.int .i64 d) ∧ w'.cell? ⟨w.heap.size + 1, 0, none⟩ = some (.int .i64 px) ∧ w'.cell? ⟨w.heap.size + 1, 1, none⟩ = some (.int .i64 py)) := fun w' hx => by
    and_intros <;> (((first | rw [hx.cells _ _ (by first | (simp; done) | (simp; omega))] | rw [hx.frozens _ _ (by first | (simp; done) | (simp; omega))]); (first | (simp [go_sem]; done) | (simp [go_sem, World.cell?_alloc_past]; done) | (simp [go_sem, World.frozen?]; done))))
  unfold onWallV
  go_enter Try.func66, Try.ntmps66
  go_wp2_with (first | (go_at_call 64; refine (sWallOk_any _ _ _ _ _).mono ?_; rintro e w1 ⟨rfl, hb⟩; have hcc := HB.out w1 (by (repeat (first | exact Ext.refl _ | assumption | apply Ext.alloc | apply Ext.drew | apply Ext.drewN | (refine Ext.trans ?_ (by assumption)))))) | (go_at_call 71; refine (sIsBetween_any _ _ _ _ _ _ _).mono ?_; rintro e w1 ⟨rfl, hb⟩; have hcc := HB.out w1 (by (repeat (first | exact Ext.refl _ | assumption | apply Ext.alloc | apply Ext.drew | apply Ext.drewN | (refine Ext.trans ?_ (by assumption)))))))
  all_goals (go_ret; exact ⟨ret_bool (by simp [*]), by (repeat (first | exact Ext.refl _ | assumption | apply Ext.alloc | apply Ext.drew | apply Ext.drewN | (refine Ext.trans ?_ (by assumption))))⟩)

set_option maxHeartbeats 800000 in
theorem sDoCross_any (ax ay bx by_ cx cy dx dy : Int) (w : World) :
    Calls Try.prog 65 #[.agg #[.int .i64 ax, .int .i64 ay, .int .i64 bx, .int .i64 by_], .agg #[.int .i64 cx, .int .i64 cy, .int .i64 dx, .int .i64 dy]] w fun e w' => e = .returned (.bool (doCrossV ax ay bx by_ cx cy dx dy)) ∧ Ext w w' := by
  have HB : Hid (∀ w', Ext ((w.alloc (.cells #[.int .i64 ax, .int .i64 ay, .int .i64 bx, .int .i64 by_] 56)).alloc (.cells #[.int .i64 cx, .int .i64 cy, .int .i64 dx, .int .i64 dy] 56)) w' → w'.cell? ⟨w.heap.size, 0, none⟩ = some (.int .i64 ax) ∧ w'.cell? ⟨w.heap.size, 1, none⟩ = some (.int .i64 ay) ∧ w'.cell? ⟨w.heap.size, 2, none⟩ = some (.int .i64 bx) ∧ w'.cell? ⟨w.heap.size, 3, none⟩ = some (.int .i64 by_) ∧ w'.cell? ⟨w.heap.size + 1, 0, none⟩ = some (.int .i64 cx) ∧ w'.cell? ⟨w.heap.size + 1, 1, none⟩ = some (.int .i64 cy) ∧ w'.cell? ⟨w.heap.size + 1, 2, none⟩ = some (.int .i64 dx) ∧ w'.cell? ⟨w.heap.size + 1, 3, none⟩ = some (.int .i64 dy)) := fun w' hx => by
    and_intros <;> (((first | rw [hx.cells _ _ (by first | (simp; done) | (simp; omega))] | rw [hx.frozens _ _ (by first | (simp; done) | (simp; omega))]); (first | (simp [go_sem]; done) | (simp [go_sem, World.cell?_alloc_past]; done) | (simp [go_sem, World.frozen?]; done))))
  unfold doCrossV
  go_enter Try.func65, Try.ntmps65
  go_wp2_with (first | (go_at_call 64; refine (sWallOk_any _ _ _ _ _).mono ?_; rintro e w1 ⟨rfl, hb⟩; have hcc := HB.out w1 (by (repeat (first | exact Ext.refl _ | assumption | apply Ext.alloc | apply Ext.drew | apply Ext.drewN | (refine Ext.trans ?_ (by assumption)))))) | (go_at_call 70; refine (l03Cross_any _ _ _ _ _ _ _ _ _).mono ?_; rintro e w1 ⟨rfl, hb⟩; have hcc := HB.out w1 (by (repeat (first | exact Ext.refl _ | assumption | apply Ext.alloc | apply Ext.drew | apply Ext.drewN | (refine Ext.trans ?_ (by assumption)))))))
  all_goals (go_ret; exact ⟨ret_bool (by simp [*]), by (repeat (first | exact Ext.refl _ | assumption | apply Ext.alloc | apply Ext.drew | apply Ext.drewN | (refine Ext.trans ?_ (by assumption))))⟩)

set_option maxRecDepth 100000 in
set_option maxHeartbeats 1600000 in
theorem DoMeet_any (ax ay bx by_ cx cy dx dy : Int) (w : World) :
    Calls Try.prog 35 #[.agg #[.int .i64 ax, .int .i64 ay, .int .i64 bx, .int .i64 by_], .agg #[.int .i64 cx, .int .i64 cy, .int .i64 dx, .int .i64 dy]] w fun e w' => e = .returned (.bool (meetV ax ay bx by_ cx cy dx dy)) ∧ Ext w w' := by
  have HB : Hid (∀ w', Ext ((w.alloc (.cells #[.int .i64 ax, .int .i64 ay, .int .i64 bx, .int .i64 by_] 56)).alloc (.cells #[.int .i64 cx, .int .i64 cy, .int .i64 dx, .int .i64 dy] 56)) w' → w'.cell? ⟨w.heap.size, 0, none⟩ = some (.int .i64 ax) ∧ w'.cell? ⟨w.heap.size, 1, none⟩ = some (.int .i64 ay) ∧ w'.cell? ⟨w.heap.size, 2, none⟩ = some (.int .i64 bx) ∧ w'.cell? ⟨w.heap.size, 3, none⟩ = some (.int .i64 by_) ∧ w'.cell? ⟨w.heap.size + 1, 0, none⟩ = some (.int .i64 cx) ∧ w'.cell? ⟨w.heap.size + 1, 1, none⟩ = some (.int .i64 cy) ∧ w'.cell? ⟨w.heap.size + 1, 2, none⟩ = some (.int .i64 dx) ∧ w'.cell? ⟨w.heap.size + 1, 3, none⟩ = some (.int .i64 dy)) := fun w' hx => by
    and_intros <;> (((first | rw [hx.cells _ _ (by first | (simp; done) | (simp; omega))] | rw [hx.frozens _ _ (by first | (simp; done) | (simp; omega))]); (first | (simp [go_sem]; done) | (simp [go_sem, World.cell?_alloc_past]; done) | (simp [go_sem, World.frozen?]; done))))
  unfold meetV
  go_enter Try.func35, Try.ntmps35
  go_wp2_with (first | (go_at_call 50; refine (WallOk_any _ _ _ _ _).mono ?_; rintro e w1 ⟨rfl, hb⟩; have hcc := HB.out w1 (by (repeat (first | exact Ext.refl _ | assumption | apply Ext.alloc | apply Ext.drew | apply Ext.drewN | (refine Ext.trans ?_ (by assumption)))))) | (go_at_call 27; refine (crosses_any _ _ _ _ _ _ _ _ _).mono ?_; rintro e w1 ⟨rfl, hb⟩; have hcc := HB.out w1 (by (repeat (first | exact Ext.refl _ | assumption | apply Ext.alloc | apply Ext.drew | apply Ext.drewN | (refine Ext.trans ?_ (by assumption)))))) | (go_at_call 51; refine (on_any _ _ _ _ _ _ _).mono ?_; rintro e w1 ⟨rfl, hb⟩; have hcc := HB.out w1 (by (repeat (first | exact Ext.refl _ | assumption | apply Ext.alloc | apply Ext.drew | apply Ext.drewN | (refine Ext.trans ?_ (by assumption)))))))
  all_goals (go_ret; exact ⟨ret_bool (by simp [*]), by (repeat (first | exact Ext.refl _ | assumption | apply Ext.alloc | apply Ext.drew | apply Ext.drewN | (refine Ext.trans ?_ (by assumption))))⟩)

theorem meet_spec {ax ay bx by_ cx cy dx dy : Int} (h1 : wok ax ay bx by_ = true) (h2 : wok cx cy dx dy = true) :
    (doCrossV ax ay bx by_ cx cy dx dy || (onWallV ax ay bx by_ cx cy || (onWallV ax ay bx by_ dx dy || (onWallV cx cy dx dy ax ay || onWallV cx cy dx dy bx by_)))) = meetV ax ay bx by_ cx cy dx dy := by
  have p1 : pok2 ax ay bx by_ = true := by unfold wok at h1; rw [Bool.and_eq_true] at h1; exact h1.1
  have p2 : pok2 cx cy dx dy = true := by unfold wok at h2; rw [Bool.and_eq_true] at h2; exact h2.1
  unfold pok2 at p1 p2
  rw [Bool.and_eq_true] at p1 p2
  unfold doCrossV onWallV meetV BetV pok3
  rw [h1, h2, p1.1, p1.2, p2.1, p2.2]
  simp only [Bool.true_and]
  cases onW ax ay cx cy dx dy <;> cases onW bx by_ cx cy dx dy <;> cases onW cx cy ax ay bx by_ <;> cases onW dx dy ax ay bx by_ <;> simp

set_option maxRecDepth 100000 in
set_option maxHeartbeats 1600000 in
theorem sDoMeet_any (ax ay bx by_ cx cy dx dy : Int) (w : World) :
    Calls Try.prog 55 #[.agg #[.int .i64 ax, .int .i64 ay, .int .i64 bx, .int .i64 by_], .agg #[.int .i64 cx, .int .i64 cy, .int .i64 dx, .int .i64 dy]] w fun e w' => e = .returned (.bool (meetV ax ay bx by_ cx cy dx dy)) ∧ Ext w w' := by
  have HB : Hid (∀ w', Ext ((w.alloc (.cells #[.int .i64 ax, .int .i64 ay, .int .i64 bx, .int .i64 by_] 56)).alloc (.cells #[.int .i64 cx, .int .i64 cy, .int .i64 dx, .int .i64 dy] 56)) w' → w'.cell? ⟨w.heap.size, 0, none⟩ = some (.int .i64 ax) ∧ w'.cell? ⟨w.heap.size, 1, none⟩ = some (.int .i64 ay) ∧ w'.cell? ⟨w.heap.size, 2, none⟩ = some (.int .i64 bx) ∧ w'.cell? ⟨w.heap.size, 3, none⟩ = some (.int .i64 by_) ∧ w'.cell? ⟨w.heap.size + 1, 0, none⟩ = some (.int .i64 cx) ∧ w'.cell? ⟨w.heap.size + 1, 1, none⟩ = some (.int .i64 cy) ∧ w'.cell? ⟨w.heap.size + 1, 2, none⟩ = some (.int .i64 dx) ∧ w'.cell? ⟨w.heap.size + 1, 3, none⟩ = some (.int .i64 dy)) := fun w' hx => by
    and_intros <;> (((first | rw [hx.cells _ _ (by first | (simp; done) | (simp; omega))] | rw [hx.frozens _ _ (by first | (simp; done) | (simp; omega))]); (first | (simp [go_sem]; done) | (simp [go_sem, World.cell?_alloc_past]; done) | (simp [go_sem, World.frozen?]; done))))
  cases h1 : wok ax ay bx by_
  · have e0 : meetV ax ay bx by_ cx cy dx dy = false := by simp [meetV, h1]
    rw [e0]
    clear e0
    go_enter Try.func55, Try.ntmps55
    go_wp2_with ((go_at_call 64; refine (sWallOk_any _ _ _ _ _).mono ?_; rintro e w1 ⟨rfl, hb⟩; have hcc := HB.out w1 (by (repeat (first | exact Ext.refl _ | assumption | apply Ext.alloc | apply Ext.drew | apply Ext.drewN | (refine Ext.trans ?_ (by assumption)))))))
    go_ret
    exact ⟨rfl, by (repeat (first | exact Ext.refl _ | assumption | apply Ext.alloc | apply Ext.drew | apply Ext.drewN | (refine Ext.trans ?_ (by assumption))))⟩
  · cases h2 : wok cx cy dx dy
    · have e0 : meetV ax ay bx by_ cx cy dx dy = false := by simp [meetV, h1, h2]
      rw [e0]
      clear e0
      go_enter Try.func55, Try.ntmps55
      go_wp2_with ((go_at_call 64; refine (sWallOk_any _ _ _ _ _).mono ?_; rintro e w1 ⟨rfl, hb⟩; have hcc := HB.out w1 (by (repeat (first | exact Ext.refl _ | assumption | apply Ext.alloc | apply Ext.drew | apply Ext.drewN | (refine Ext.trans ?_ (by assumption)))))))
      go_ret
      exact ⟨rfl, by (repeat (first | exact Ext.refl _ | assumption | apply Ext.alloc | apply Ext.drew | apply Ext.drewN | (refine Ext.trans ?_ (by assumption))))⟩
    · rw [← meet_spec h1 h2]
      go_enter Try.func55, Try.ntmps55
      go_wp2_with (first | (go_at_call 64; refine (sWallOk_any _ _ _ _ _).mono ?_; rintro e w1 ⟨rfl, hb⟩; have hcc := HB.out w1 (by (repeat (first | exact Ext.refl _ | assumption | apply Ext.alloc | apply Ext.drew | apply Ext.drewN | (refine Ext.trans ?_ (by assumption)))))) | (go_at_call 65; refine (sDoCross_any _ _ _ _ _ _ _ _ _).mono ?_; rintro e w1 ⟨rfl, hb⟩; have hcc := HB.out w1 (by (repeat (first | exact Ext.refl _ | assumption | apply Ext.alloc | apply Ext.drew | apply Ext.drewN | (refine Ext.trans ?_ (by assumption)))))) | (go_at_call 66; refine (sIsOnWall_any _ _ _ _ _ _ _).mono ?_; rintro e w1 ⟨rfl, hb⟩; have hcc := HB.out w1 (by (repeat (first | exact Ext.refl _ | assumption | apply Ext.alloc | apply Ext.drew | apply Ext.drewN | (refine Ext.trans ?_ (by assumption)))))))
      all_goals (go_ret; exact ⟨ret_bool (by simp [*]), by (repeat (first | exact Ext.refl _ | assumption | apply Ext.alloc | apply Ext.drew | apply Ext.drewN | (refine Ext.trans ?_ (by assumption))))⟩)

end Go.Proofs.Ytjccilpjaaiicaa

namespace Go.Proofs.Ytjccilpjaaiicaa
open Go.RowKit

/-- walls i and k of l meet -/
def mt (l : List (Int × Int)) (i k : Nat) : Bool := meetV (gx l i) (gy l i) (gx l (nx l i)) (gy l (nx l i)) (gx l k) (gy l k) (gx l (nx l k)) (gy l (nx l k))
/-- the turn at the corner behind i -/
def tn (l : List (Int × Int)) (i : Nat) : Int := turnW (gx l i) (gy l i) (gx l (nx l i)) (gy l (nx l i)) (gx l ((i + 2) % l.length)) (gy l ((i + 2) % l.length))
/-- walls i and k are asked by the program -/
def askI (l : List (Int × Int)) (i k : Nat) : Bool := decide (i + 2 ≤ k) && !((k + 1) % l.length == i)
/-- walls i and k are asked by the reference -/
def askS (l : List (Int × Int)) (i k : Nat) : Bool := !(k == i || ((k + 1) % l.length == i || (i + 1) % l.length == k))
def rowI (l : List (Int × Int)) (i : Nat) : Bool := !decide (tn l i = 0) && (List.range l.length).all fun k => !(askI l i k && mt l i k)
def rowS (l : List (Int × Int)) (i : Nat) : Bool := !decide (tn l i = 0) && (List.range l.length).all fun k => !(askS l i k && mt l i k)
def sizeB (l : List (Int × Int)) : Bool := decide (3 ≤ l.length) && decide (l.length ≤ 10)
/-- RoomOk, as both texts give it -/
def roomB (l : List (Int × Int)) : Bool := sizeB l && (allok l && ((List.range l.length).all (rowI l) && decide (0 < areaZ l)))

theorem side_comm (ax ay bx by_ cx cy dx dy : Int) : crossB ax ay bx by_ cx cy dx dy = crossB cx cy dx dy ax ay bx by_ := by
  unfold crossB
  rw [Bool.and_comm]

theorem meet_comm (ax ay bx by_ cx cy dx dy : Int) : meetV ax ay bx by_ cx cy dx dy = meetV cx cy dx dy ax ay bx by_ := by
  unfold meetV
  rw [side_comm]
  cases wok ax ay bx by_ <;> cases wok cx cy dx dy <;> cases onW ax ay cx cy dx dy <;> cases onW bx by_ cx cy dx dy <;> cases onW cx cy ax ay bx by_ <;> cases onW dx dy ax ay bx by_ <;> simp

theorem mt_comm (l : List (Int × Int)) (i k : Nat) : mt l i k = mt l k i := meet_comm _ _ _ _ _ _ _ _

theorem askS_of_askI {l : List (Int × Int)} {i k : Nat} (hi : i < l.length) (hk : k < l.length) (h : askI l i k = true) : askS l i k = true := by
  unfold askI at h
  simp only [Bool.and_eq_true, decide_eq_true_eq, Bool.not_eq_true', beq_eq_false_iff_ne] at h
  unfold askS
  simp only [Bool.not_eq_true', Bool.or_eq_false_iff, beq_eq_false_iff_ne]
  refine ⟨by omega, h.2, ?_⟩
  rw [Nat.mod_eq_of_lt (by omega)]
  omega

theorem askI_of_askS {l : List (Int × Int)} {i k : Nat} (hi : i < l.length) (hk : k < l.length) (h : askS l i k = true) : askI l i k = true ∨ askI l k i = true := by
  unfold askS at h
  simp only [Bool.not_eq_true', Bool.or_eq_false_iff, beq_eq_false_iff_ne] at h
  obtain ⟨h1, h2, h3⟩ := h
  unfold askI
  simp only [Bool.and_eq_true, decide_eq_true_eq, Bool.not_eq_true', beq_eq_false_iff_ne]
  rcases Nat.lt_or_ge i k with hlt | hge
  · left
    refine ⟨?_, h2⟩
    rcases Nat.lt_or_ge (i + 1) l.length with h4 | h4
    · rw [Nat.mod_eq_of_lt h4] at h3; omega
    · omega
  · right
    refine ⟨?_, h3⟩
    rcases Nat.lt_or_ge (k + 1) l.length with h4 | h4
    · rw [Nat.mod_eq_of_lt h4] at h2; omega
    · omega

theorem rows_eq (l : List (Int × Int)) : (List.range l.length).all (rowS l) = (List.range l.length).all (rowI l) := by
  rw [Bool.eq_iff_iff, List.all_eq_true, List.all_eq_true]
  simp only [List.mem_range]
  unfold rowS rowI
  constructor
  · intro h i hi
    have := h i hi
    rw [Bool.and_eq_true] at this ⊢
    refine ⟨this.1, ?_⟩
    rw [List.all_eq_true] at this ⊢
    intro k hk
    have h2 := this.2 k hk
    rw [List.mem_range] at hk
    cases ha : askI l i k with
    | false => simp
    | true => rw [askS_of_askI hi hk ha] at h2; exact h2
  · intro h i hi
    have := h i hi
    rw [Bool.and_eq_true] at this ⊢
    refine ⟨this.1, ?_⟩
    rw [List.all_eq_true] at this ⊢
    intro k hk
    have h2 := this.2 k hk
    rw [List.mem_range] at hk
    cases ha : askS l i k with
    | false => simp
    | true =>
      rcases askI_of_askS hi hk ha with h3 | h3
      · rw [h3] at h2; exact h2
      · have := h k hk
        rw [Bool.and_eq_true, List.all_eq_true] at this
        have h4 := this.2 i (List.mem_range.2 hi)
        rw [h3, mt_comm] at h4
        exact h4

theorem roomB_spec (l : List (Int × Int)) : (sizeB l && (allok l && ((List.range l.length).all (rowS l) && decide (0 < areaZ l)))) = roomB l := by
  rw [rows_eq]; rfl

theorem roomB_row {l : List (Int × Int)} {i : Nat} (hi : i < l.length) (h : rowI l i = false) : roomB l = false := by
  have : (List.range l.length).all (rowI l) = false := by
    rw [List.all_eq_false]
    exact ⟨i, List.mem_range.2 hi, by simp [h]⟩
  unfold roomB
  rw [this]
  simp

theorem rowI_turn {l : List (Int × Int)} {i : Nat} (h : tn l i = 0) : rowI l i = false := by simp [rowI, h]

theorem rowI_meet {l : List (Int × Int)} {i k : Nat} (hk : k < l.length) (ha : askI l i k = true) (h : mt l i k = true) : rowI l i = false := by
  have : ((List.range l.length).all fun k => !(askI l i k && mt l i k)) = false := by
    rw [List.all_eq_false]
    exact ⟨k, List.mem_range.2 hk, by simp [h, ha]⟩
  unfold rowI
  rw [this]
  simp

theorem rowI_all {l : List (Int × Int)} {i : Nat} (ht : ¬ tn l i = 0) (h : ∀ k, k < l.length → askI l i k = true → mt l i k = false) : rowI l i = true := by
  unfold rowI
  rw [Bool.and_eq_true, List.all_eq_true]
  refine ⟨by simp [ht], fun k hk => ?_⟩
  rw [List.mem_range] at hk
  cases ha : askI l i k with
  | false => simp
  | true => simp [h k hk ha]

theorem rowS_turn {l : List (Int × Int)} {i : Nat} (h : tn l i = 0) : rowS l i = false := by simp [rowS, h]

theorem rowS_meet {l : List (Int × Int)} {i k : Nat} (hk : k < l.length) (ha : askS l i k = true) (h : mt l i k = true) : rowS l i = false := by
  have : ((List.range l.length).all fun k => !(askS l i k && mt l i k)) = false := by
    rw [List.all_eq_false]
    exact ⟨k, List.mem_range.2 hk, by simp [h, ha]⟩
  unfold rowS
  rw [this]
  simp

theorem rowS_all {l : List (Int × Int)} {i : Nat} (ht : ¬ tn l i = 0) (h : ∀ k, k < l.length → askS l i k = true → mt l i k = false) : rowS l i = true := by
  unfold rowS
  rw [Bool.and_eq_true, List.all_eq_true]
  refine ⟨by simp [ht], fun k hk => ?_⟩
  rw [List.mem_range] at hk
  cases ha : askS l i k with
  | false => simp
  | true => simp [h k hk ha]

theorem roomB_rowS {l : List (Int × Int)} {i : Nat} (hi : i < l.length) (h : rowS l i = false) : roomB l = false := by
  have : (List.range l.length).all (rowS l) = false := by
    rw [List.all_eq_false]
    exact ⟨i, List.mem_range.2 hi, by simp [h]⟩
  rw [← roomB_spec, this]
  simp

theorem roomB_end {l : List (Int × Int)} (h1 : sizeB l = true) (h2 : allok l = true) (h3 : ∀ i, i < l.length → rowI l i = true) : roomB l = decide (0 < areaZ l) := by
  unfold roomB
  have : (List.range l.length).all (rowI l) = true := by
    rw [List.all_eq_true]
    intro i hi
    exact h3 i (List.mem_range.1 hi)
  rw [h1, h2, this]
  simp

theorem roomB_endS {l : List (Int × Int)} (h1 : sizeB l = true) (h2 : allok l = true) (h3 : ∀ i, i < l.length → rowS l i = true) : roomB l = decide (0 < areaZ l) := by
  rw [← roomB_spec]
  have : (List.range l.length).all (rowS l) = true := by
    rw [List.all_eq_true]
    intro i hi
    exact h3 i (List.mem_range.1 hi)
  rw [h1, h2, this]
  simp

theorem roomB_fine {l : List (Int × Int)} (h : roomB l = true) : Fine l ∧ 3 ≤ l.length := by
  unfold roomB sizeB at h
  simp only [Bool.and_eq_true, decide_eq_true_eq] at h
  exact ⟨⟨h.2.1, h.1.2⟩, h.1.1⟩

end Go.Proofs.Ytjccilpjaaiicaa

namespace Go.Proofs.Ytjccilpjaaiicaa
open Go.RowKit

theorem roomB_size {l : List (Int × Int)} (h : sizeB l = false) : roomB l = false := by simp [roomB, h]
theorem roomB_allok {l : List (Int × Int)} (h : allok l = false) : roomB l = false := by simp [roomB, h]
theorem sizeB_inB (l : List (Int × Int)) : inB (l.length : Int) 3 10 = sizeB l := by
  unfold inB sizeB
  congr 1 <;> (rw [Bool.eq_iff_iff]; simp only [decide_eq_true_eq]; omega)

set_option maxRecDepth 100000 in
set_option maxHeartbeats 8000000 in
theorem RoomOk_any (A : Option Addr) (l : List (Int × Int)) (c : Nat) (w : World) (hp : RPts w A l) (hn : l.length ≤ 1048576) :
    Calls Try.prog 17 #[.agg #[.slice A l.length c]] w fun e w' => e = .returned (.bool (roomB l)) ∧ Ext w w' := by
  have HB : Hid (∀ w', Ext (w.alloc (.cells #[.slice A l.length c] 26)) w' → w'.cell? ⟨w.heap.size, 0, none⟩ = some (.slice A l.length c)) := fun w' hx => by
    and_intros <;> (((first | rw [hx.cells _ _ (by first | (simp; done) | (simp; omega))] | rw [hx.frozens _ _ (by first | (simp; done) | (simp; omega))]); (first | (simp [go_sem]; done) | (simp [go_sem, World.cell?_alloc_past]; done) | (simp [go_sem, World.frozen?]; done))))
  have hin := sizeB_inB l
  cases hs : sizeB l
  · rw [roomB_size hs]
    rw [hs] at hin
    go_enter Try.func17, Try.ntmps17
    go_wp2_with (go_at_call 33; refine (between_any _ _ _ _).mono ?_; rintro e w1 ⟨rfl, rfl⟩)
    go_ret
    exact ⟨rfl, by (repeat (first | exact Ext.refl _ | assumption | apply Ext.alloc | apply Ext.drew | apply Ext.drewN | (refine Ext.trans ?_ (by assumption))))⟩
  rw [hs] at hin
  have hlen : 3 ≤ l.length ∧ l.length ≤ 10 := by unfold sizeB at hs; simpa using hs
  obtain ⟨hl3, hl10⟩ := hlen
  cases ha : allok l
  · rw [roomB_allok ha]
    go_enter Try.func17, Try.ntmps17
    go_wp2_with (first | (go_at_call 33; refine (between_any _ _ _ _).mono ?_; rintro e w1 ⟨rfl, rfl⟩) | (go_at_call 31; refine (pointsOk_any _ _ _ _ (hp.ext (by (repeat (first | exact Ext.refl _ | assumption | apply Ext.alloc | apply Ext.drew | apply Ext.drewN | (refine Ext.trans ?_ (by assumption)))))) hn).mono ?_; rintro e w1 ⟨rfl, hb⟩; have hcc := HB.out w1 (by (repeat (first | exact Ext.refl _ | assumption | apply Ext.alloc | apply Ext.drew | apply Ext.drewN | (refine Ext.trans ?_ (by assumption)))))))
    go_ret
    exact ⟨rfl, by (repeat (first | exact Ext.refl _ | assumption | apply Ext.alloc | apply Ext.drew | apply Ext.drewN | (refine Ext.trans ?_ (by assumption))))⟩
  have hfine : Fine l := ⟨ha, hl10⟩
  go_enter Try.func17, Try.ntmps17
  go_wp2_with (first | (go_at_call 33; refine (between_any _ _ _ _).mono ?_; rintro e w1 ⟨rfl, rfl⟩) | (go_at_call 31; refine (pointsOk_any _ _ _ _ (hp.ext (by (repeat (first | exact Ext.refl _ | assumption | apply Ext.alloc | apply Ext.drew | apply Ext.drewN | (refine Ext.trans ?_ (by assumption)))))) hn).mono ?_; rintro e w1 ⟨rfl, hb⟩; have hcc := HB.out w1 (by (repeat (first | exact Ext.refl _ | assumption | apply Ext.alloc | apply Ext.drew | apply Ext.drewN | (refine Ext.trans ?_ (by assumption)))))) | (go_at_call 26; refine (wallsOf_any _ _ _ _ (hp.ext (by (repeat (first | exact Ext.refl _ | assumption | apply Ext.alloc | apply Ext.drew | apply Ext.drewN | (refine Ext.trans ?_ (by assumption)))))) hn).mono ?_; rintro e w1 ⟨A', c', rfl, hr, hb⟩; have hcc := HB.out w1 (by (repeat (first | exact Ext.refl _ | assumption | apply Ext.alloc | apply Ext.drew | apply Ext.drewN | (refine Ext.trans ?_ (by assumption)))))))
  clear hcc
  go_loopw [25] (fun i wr => ∃ k : Nat, k ≤ l.length ∧ i = .int .i64 k ∧ Ext w1 wr ∧ Hid (∀ j, j < k → rowI l j = true)) (fun i _ => l.length - (intOf i).toNat)
  case atStart => exact ⟨0, Nat.zero_le _, rfl, Ext.refl _, fun j hj => absurd hj (by omega)⟩
  case round =>
    obtain ⟨k, hk, rfl, hbl, HR⟩ := hrel
    obtain ⟨wq, rfl⟩ : ∃ wq : World, wq = wr := ⟨_, rfl⟩
    have hx1 : Ext (w.alloc (.cells #[.slice A l.length c] 26)) wq := by (repeat (first | exact Ext.refl _ | assumption | apply Ext.alloc | apply Ext.drew | apply Ext.drewN | (refine Ext.trans ?_ (by assumption))))
    have hcb := HB.out wq hx1
    have hszr : w.heap.size < wq.heap.size := by have := hx1.size; simp at this; omega
    by_cases hlt : k < l.length
    · have hne : l ≠ [] := fun e => by rw [e] at hlt; simp at hlt
      obtain ⟨g, rfl, hg, c1, c2, c3, c4⟩ := (hr.ext hbl) k hlt
      have hm2 : (k + 2) % l.length < l.length := Nat.mod_lt _ (by omega)
      obtain ⟨b, off, rfl, hz1, hx2, hy2⟩ := (hp.ext (by (repeat (first | exact Ext.refl _ | assumption | apply Ext.alloc | apply Ext.drew | apply Ext.drewN | (refine Ext.trans ?_ (by assumption)))) : Ext w wq)).at_ hm2
      obtain ⟨q1, q2, q3, q4, q5⟩ := idx_facts ((k : Int) + 2) (k + 2) l.length (by omega) (by omega) (by omega)
      have hz2 : b < (wq.alloc (.cells #[.int .i64 (gx l k), .int .i64 (gy l k), .int .i64 (gx l (nx l k)), .int .i64 (gy l (nx l k))] 56)).heap.size := by simp; omega
      have hz3 : w.heap.size < (wq.alloc (.cells #[.int .i64 (gx l k), .int .i64 (gy l k), .int .i64 (gx l (nx l k)), .int .i64 (gy l (nx l k))] 56)).heap.size := by simp; omega
      by_cases ht : tn l k = 0
      · have HROW := hide (roomB_row hlt (rowI_turn ht))
        unfold tn at ht
        go_wp2
        refine wp_flow (by kernel_rfl) (by kernel_rfl) (fun u => ⟨#[_, _, _, _, _, _, _, _, _, _, _, _, _, _, _, _, _, _, _, _, _, _, _, _, _, _, _, _, _, _, u 0, u 1, u 2, u 3, u 4, u 5, u 6, u 7, u 8, u 9, u 10, u 11, u 12, u 13, _, _, _, _, _, _, _, _, _, _, _, _, _, _, _, _, _, _, _, _, _, _, _, _, _, _], _⟩) (fun i => List.getD [_, _, _, _, _, _, _, _, _, _, _, _, _, _] i undef) [is ?v1_0, is ?v1_1, is ?v1_2, is ?v1_3, is ?v1_4, is ?v1_5, is ?v1_6, is ?v1_7, is ?v1_8, is ?v1_9, is ?v1_10, is ?v1_11, is ?v1_12, is ?v1_13] (fun w' => w'.cell? ⟨wq.heap.size, 0, none⟩ = some (.int .i64 (gx l k)) ∧ w'.cell? ⟨wq.heap.size, 1, none⟩ = some (.int .i64 (gy l k)) ∧ w'.cell? ⟨wq.heap.size, 2, none⟩ = some (.int .i64 (gx l (nx l k))) ∧ w'.cell? ⟨wq.heap.size, 3, none⟩ = some (.int .i64 (gy l (nx l k))) ∧ w'.cell? ⟨w.heap.size, 0, none⟩ = some (.slice (some ⟨b, off, none⟩) l.length c) ∧ w'.cell? ⟨b, off + (k + 2) % l.length * 2, none⟩ = some (.int .i64 (gx l ((k + 2) % l.length))) ∧ w'.cell? ⟨b, off + (k + 2) % l.length * 2 + 1, none⟩ = some (.int .i64 (gy l ((k + 2) % l.length)))) _ rfl ?hC1 ?hs1 ?hV1 ?fin1
        case hC1 => (intro w' hx; and_intros <;> (first | (refine (Eq.trans (hx.cells _ _ ?_) ?_) <;> first | assumption | omega | (simp; done) | (simp; omega) | (simp [go_sem, World.cell?_alloc_past, *]; done)) | (have hz := hx.size; first | omega | (simp at hz; omega))))
        case hs1 =>
          repeat' (first
            | exact FSteps.nil
            | refine FSteps.cons ?_ ?_
            | (refine FStep.off_ _ _ _ rfl rfl ?_ (fun _ => rfl) ?_; (focus (intro u w hd; simp [vOf, is, Region.binds] at hd; simp [hd])); (intro w'; exact rfl); done)
            | ((first
                | refine FStep.plain rfl ?_
                | (refine FStep.on_ _ _ _ rfl rfl ?_ ?_; (focus (intro u w hd; simp [vOf, is, Region.binds] at hd; simp [hd]))))
               intro u w hW hC hd K hK
               (try simp [vOf, is, Region.binds] at hd)
               simp only [upd, Nat.reduceEqDiff, if_true, if_false] at hK
               (try simp only [hd] at hK)
               go_simp
               (first
                 | (refine hK _ _ ?_ ?_; (first | exact rfl); (repeat (first | exact Ext.refl _ | assumption | apply Ext.alloc | apply Ext.drew | apply Ext.drewN | (refine Ext.trans ?_ (by assumption)))))
                 | (go_at_call 34; refine (turn_any _ _ _ _ _ _ _).mono ?_; rintro e w1 ⟨rfl, hb⟩; (try go_simp); refine hK _ _ ?_ ?_; (first | exact rfl); (repeat (first | exact Ext.refl _ | assumption | apply Ext.alloc | apply Ext.drew | apply Ext.drewN | (refine Ext.trans ?_ (by assumption))))))))
        case hV1 => (simp only [List.forall_mem_cons]; simp [stable_is])
        case fin1 =>
          intro u w2 hW2 hC2 hd
          simp only [AllV, is] at hd
          simp only [hd]
          clear hd
          go_wp2
          go_ret
          exact ⟨by rw [HROW.out]; rfl, by (repeat (first | exact Ext.refl _ | assumption | apply Ext.alloc | apply Ext.drew | apply Ext.drewN | (refine Ext.trans ?_ (by assumption))))⟩
      · have HT := hide ht
        unfold tn at ht
        have ht2 : (turnW (gx l k) (gy l k) (gx l (nx l k)) (gy l (nx l k)) (gx l ((k + 2) % l.length)) (gy l ((k + 2) % l.length)) == 0) = false := by simpa using ht
        go_wp2
        refine wp_flow (by kernel_rfl) (by kernel_rfl) (fun u => ⟨#[_, _, _, _, _, _, _, _, _, _, _, _, _, _, _, _, _, _, _, _, _, _, _, _, _, _, _, _, _, _, u 0, u 1, u 2, u 3, u 4, u 5, u 6, u 7, u 8, u 9, u 10, u 11, u 12, u 13, _, _, _, _, _, _, _, _, _, _, _, _, _, _, _, _, _, _, _, _, _, _, _, _, _, _], _⟩) (fun i => List.getD [_, _, _, _, _, _, _, _, _, _, _, _, _, _] i undef) [is ?v2_0, is ?v2_1, is ?v2_2, is ?v2_3, is ?v2_4, is ?v2_5, is ?v2_6, is ?v2_7, is ?v2_8, is ?v2_9, is ?v2_10, is ?v2_11, is ?v2_12, is ?v2_13] (fun w' => w'.cell? ⟨wq.heap.size, 0, none⟩ = some (.int .i64 (gx l k)) ∧ w'.cell? ⟨wq.heap.size, 1, none⟩ = some (.int .i64 (gy l k)) ∧ w'.cell? ⟨wq.heap.size, 2, none⟩ = some (.int .i64 (gx l (nx l k))) ∧ w'.cell? ⟨wq.heap.size, 3, none⟩ = some (.int .i64 (gy l (nx l k))) ∧ w'.cell? ⟨w.heap.size, 0, none⟩ = some (.slice (some ⟨b, off, none⟩) l.length c) ∧ w'.cell? ⟨b, off + (k + 2) % l.length * 2, none⟩ = some (.int .i64 (gx l ((k + 2) % l.length))) ∧ w'.cell? ⟨b, off + (k + 2) % l.length * 2 + 1, none⟩ = some (.int .i64 (gy l ((k + 2) % l.length)))) _ rfl ?hC2 ?hs2 ?hV2 ?fin2
        case hC2 => (intro w' hx; and_intros <;> (first | (refine (Eq.trans (hx.cells _ _ ?_) ?_) <;> first | assumption | omega | (simp; done) | (simp; omega) | (simp [go_sem, World.cell?_alloc_past, *]; done)) | (have hz := hx.size; first | omega | (simp at hz; omega))))
        case hs2 =>
          repeat' (first
            | exact FSteps.nil
            | refine FSteps.cons ?_ ?_
            | (refine FStep.off_ _ _ _ rfl rfl ?_ (fun _ => rfl) ?_; (focus (intro u w hd; simp [vOf, is, Region.binds] at hd; simp [hd])); (intro w'; exact rfl); done)
            | ((first
                | refine FStep.plain rfl ?_
                | (refine FStep.on_ _ _ _ rfl rfl ?_ ?_; (focus (intro u w hd; simp [vOf, is, Region.binds] at hd; simp [hd]))))
               intro u w hW hC hd K hK
               (try simp [vOf, is, Region.binds] at hd)
               simp only [upd, Nat.reduceEqDiff, if_true, if_false] at hK
               (try simp only [hd] at hK)
               go_simp
               (first
                 | (refine hK _ _ ?_ ?_; (first | exact rfl); (repeat (first | exact Ext.refl _ | assumption | apply Ext.alloc | apply Ext.drew | apply Ext.drewN | (refine Ext.trans ?_ (by assumption)))))
                 | (go_at_call 34; refine (turn_any _ _ _ _ _ _ _).mono ?_; rintro e w1 ⟨rfl, hb⟩; (try go_simp); refine hK _ _ ?_ ?_; (first | exact rfl); (repeat (first | exact Ext.refl _ | assumption | apply Ext.alloc | apply Ext.drew | apply Ext.drewN | (refine Ext.trans ?_ (by assumption))))))))
        case hV2 => (simp only [List.forall_mem_cons]; simp [stable_is])
        case fin2 =>
          intro u w2 hW2 hC2 hd
          simp only [AllV, is] at hd
          simp only [hd]
          clear hd
          have HW : Hid (∀ w', Ext w2 w' → wq.heap.size < w'.heap.size ∧ w'.cell? ⟨wq.heap.size, 0, none⟩ = some (.int .i64 (gx l k)) ∧ w'.cell? ⟨wq.heap.size, 1, none⟩ = some (.int .i64 (gy l k)) ∧ w'.cell? ⟨wq.heap.size, 2, none⟩ = some (.int .i64 (gx l (nx l k))) ∧ w'.cell? ⟨wq.heap.size, 3, none⟩ = some (.int .i64 (gy l (nx l k)))) := fun w' hx => by
            have hsz : wq.heap.size < w2.heap.size := by have := hW2.size; simp at this; omega
            exact ⟨Nat.lt_of_lt_of_le hsz hx.size, (hx.cells _ _ hsz).trans hC2.1, (hx.cells _ _ hsz).trans hC2.2.1, (hx.cells _ _ hsz).trans hC2.2.2.1, (hx.cells _ _ hsz).trans hC2.2.2.2.1⟩
          have hx0 : Ext w1 w2 := by (repeat (first | exact Ext.refl _ | assumption | apply Ext.alloc | apply Ext.drew | apply Ext.drewN | (refine Ext.trans ?_ (by assumption))))
          clear ht ht2 hx2 hy2 q1 q2 q3 q4 q5 hC2 c1 c2 c3 c4 hcb hz1 hz2 hz3
          go_wp2
          obtain ⟨wo, rfl⟩ : ∃ wo : World, wo = w2 := ⟨_, rfl⟩
          go_loopw [7] (fun q wi => ∃ m : Nat, k + 2 ≤ m ∧ m ≤ l.length + 2 ∧ q = .int .i64 m ∧ Ext wo wi ∧ Hid (∀ j, j < m → j < l.length → askI l k j = true → mt l k j = false)) (fun q _ => l.length - (intOf q).toNat)
          case atStart => exact ⟨k + 2, Nat.le_refl _, by omega, by go_num, Ext.refl _, fun j h1 _ h3 => by unfold askI at h3; simp at h3; omega⟩
          case round =>
            obtain ⟨m, hm1, hm2', rfl, hxi, HM⟩ := hrel
            by_cases hlm : m < l.length
            · obtain ⟨g', hg', hgs, c1, c2, c3, c4⟩ := ((hr.ext hx0).ext hxi) m hlm
              injection hg' with hg'
              injection hg' with hg' _ _
              subst hg'
              obtain ⟨hws, v1, v2, v3, v4⟩ := HW.out _ hxi
              obtain ⟨q1, q2, q3, q4, q5⟩ := idx_facts ((m : Int) + 1) (m + 1) l.length (by omega) (by omega) (by omega)
              by_cases ha : (m + 1) % l.length = k
              · have hq : ((m : Int) + 1) % (l.length : Int) = (k : Int) := by omega
                have hq1 : (((m : Int) + 1) % (l.length : Int) != (k : Int)) = false := by simp [hq]
                have HA := hide ha
                clear ha hq q3 q4 q5
                go_wp2
                refine wp_flow (by kernel_rfl) (by kernel_rfl) (fun u => ⟨#[_, _, _, _, _, _, _, _, _, _, _, _, _, _, _, _, _, _, _, _, _, _, _, _, _, _, _, _, _, _, _, _, _, _, _, _, _, _, _, _, _, _, _, _, _, _, _, _, _, _, _, u 0, u 1, u 2, u 3, u 4, u 5, u 6, u 7, u 8, u 9, u 10, u 11, u 12, u 13, _, _, _, _, _], _⟩) (fun i => List.getD [_, _, _, _, _, _, _, _, _, _, _, _, _, _] i undef) [is ?v3_0, is ?v3_1, is ?v3_2, is ?v3_3, is ?v3_4, is ?v3_5, is ?v3_6, is ?v3_7, is ?v3_8, is ?v3_9, is ?v3_10, is ?v3_11, is ?v3_12, is ?v3_13] (fun w' => w'.cell? ⟨wq.heap.size, 0, none⟩ = some (.int .i64 (gx l k)) ∧ w'.cell? ⟨wq.heap.size, 1, none⟩ = some (.int .i64 (gy l k)) ∧ w'.cell? ⟨wq.heap.size, 2, none⟩ = some (.int .i64 (gx l (nx l k))) ∧ w'.cell? ⟨wq.heap.size, 3, none⟩ = some (.int .i64 (gy l (nx l k))) ∧ w'.cell? ⟨g, m * 4, none⟩ = some (.int .i64 (gx l m)) ∧ w'.cell? ⟨g, m * 4 + 1, none⟩ = some (.int .i64 (gy l m)) ∧ w'.cell? ⟨g, m * 4 + 2, none⟩ = some (.int .i64 (gx l (nx l m))) ∧ w'.cell? ⟨g, m * 4 + 3, none⟩ = some (.int .i64 (gy l (nx l m)))) _ rfl ?hC3 ?hs3 ?hV3 ?fin3
                case hC3 => (intro w' hx; and_intros <;> (first | (refine (Eq.trans (hx.cells _ _ ?_) ?_) <;> first | assumption | omega | (simp; done) | (simp; omega) | (simp [go_sem, World.cell?_alloc_past, *]; done)) | (have hz := hx.size; first | omega | (simp at hz; omega))))
                case hs3 =>
                  repeat' (first
                    | exact FSteps.nil
                    | refine FSteps.cons ?_ ?_
                    | (refine FStep.off_ _ _ _ rfl rfl ?_ (fun _ => rfl) ?_; (focus (intro u w hd; simp [vOf, is, Region.binds] at hd; simp [hd])); (intro w'; exact rfl); done)
                    | ((first
                        | refine FStep.plain rfl ?_
                        | (refine FStep.on_ _ _ _ rfl rfl ?_ ?_; (focus (intro u w hd; simp [vOf, is, Region.binds] at hd; simp [hd]))))
                       intro u w hW hC hd K hK
                       (try simp [vOf, is, Region.binds] at hd)
                       simp only [upd, Nat.reduceEqDiff, if_true, if_false] at hK
                       (try simp only [hd] at hK)
                       go_simp
                       (first
                         | (refine hK _ _ ?_ ?_; (first | exact rfl); (repeat (first | exact Ext.refl _ | assumption | apply Ext.alloc | apply Ext.drew | apply Ext.drewN | (refine Ext.trans ?_ (by assumption)))))
                         | (go_at_call 35; refine (DoMeet_any _ _ _ _ _ _ _ _ _).mono ?_; rintro e w1 ⟨rfl, hb⟩; (try go_simp); refine hK _ _ ?_ ?_; (first | exact rfl); (repeat (first | exact Ext.refl _ | assumption | apply Ext.alloc | apply Ext.drew | apply Ext.drewN | (refine Ext.trans ?_ (by assumption))))))))
                case hV3 => (simp only [List.forall_mem_cons]; simp [stable_is])
                case fin3 =>
                  intro u w2 hW2 hC2 hd
                  simp only [AllV, is] at hd
                  simp only [hd]
                  clear hd
                  go_wp2
                  go_roundw
                  case rel =>
                    refine ⟨m + 1, by omega, by omega, by go_num, by (repeat (first | exact Ext.refl _ | assumption | apply Ext.alloc | apply Ext.drew | apply Ext.drewN | (refine Ext.trans ?_ (by assumption)))), fun j h1 h2 h3 => ?_⟩
                    by_cases e : j = m
                    · subst e
                      unfold askI at h3
                      simp [HA.out] at h3
                    · exact HM.out j (by omega) h2 h3
                  case measure => simp [intOf]; omega
              · have hq : ¬ ((m : Int) + 1) % (l.length : Int) = (k : Int) := by omega
                have hq1 : (((m : Int) + 1) % (l.length : Int) != (k : Int)) = true := by simp [hq]
                have hask : askI l k m = true := by unfold askI; simp [ha]; omega
                have HA := hide hask
                clear ha hq q3 q4 q5 hask
                cases hmt : mt l k m
                · have HMT := hide hmt
                  unfold mt at hmt
                  go_wp2
                  refine wp_flow (by kernel_rfl) (by kernel_rfl) (fun u => ⟨#[_, _, _, _, _, _, _, _, _, _, _, _, _, _, _, _, _, _, _, _, _, _, _, _, _, _, _, _, _, _, _, _, _, _, _, _, _, _, _, _, _, _, _, _, _, _, _, _, _, _, _, u 0, u 1, u 2, u 3, u 4, u 5, u 6, u 7, u 8, u 9, u 10, u 11, u 12, u 13, _, _, _, _, _], _⟩) (fun i => List.getD [_, _, _, _, _, _, _, _, _, _, _, _, _, _] i undef) [is ?v4_0, is ?v4_1, is ?v4_2, is ?v4_3, is ?v4_4, is ?v4_5, is ?v4_6, is ?v4_7, is ?v4_8, is ?v4_9, is ?v4_10, is ?v4_11, is ?v4_12, is ?v4_13] (fun w' => w'.cell? ⟨wq.heap.size, 0, none⟩ = some (.int .i64 (gx l k)) ∧ w'.cell? ⟨wq.heap.size, 1, none⟩ = some (.int .i64 (gy l k)) ∧ w'.cell? ⟨wq.heap.size, 2, none⟩ = some (.int .i64 (gx l (nx l k))) ∧ w'.cell? ⟨wq.heap.size, 3, none⟩ = some (.int .i64 (gy l (nx l k))) ∧ w'.cell? ⟨g, m * 4, none⟩ = some (.int .i64 (gx l m)) ∧ w'.cell? ⟨g, m * 4 + 1, none⟩ = some (.int .i64 (gy l m)) ∧ w'.cell? ⟨g, m * 4 + 2, none⟩ = some (.int .i64 (gx l (nx l m))) ∧ w'.cell? ⟨g, m * 4 + 3, none⟩ = some (.int .i64 (gy l (nx l m)))) _ rfl ?hC4 ?hs4 ?hV4 ?fin4
                  case hC4 => (intro w' hx; and_intros <;> (first | (refine (Eq.trans (hx.cells _ _ ?_) ?_) <;> first | assumption | omega | (simp; done) | (simp; omega) | (simp [go_sem, World.cell?_alloc_past, *]; done)) | (have hz := hx.size; first | omega | (simp at hz; omega))))
                  case hs4 =>
                    repeat' (first
                      | exact FSteps.nil
                      | refine FSteps.cons ?_ ?_
                      | (refine FStep.off_ _ _ _ rfl rfl ?_ (fun _ => rfl) ?_; (focus (intro u w hd; simp [vOf, is, Region.binds] at hd; simp [hd])); (intro w'; exact rfl); done)
                      | ((first
                          | refine FStep.plain rfl ?_
                          | (refine FStep.on_ _ _ _ rfl rfl ?_ ?_; (focus (intro u w hd; simp [vOf, is, Region.binds] at hd; simp [hd]))))
                         intro u w hW hC hd K hK
                         (try simp [vOf, is, Region.binds] at hd)
                         simp only [upd, Nat.reduceEqDiff, if_true, if_false] at hK
                         (try simp only [hd] at hK)
                         go_simp
                         (first
                           | (refine hK _ _ ?_ ?_; (first | exact rfl); (repeat (first | exact Ext.refl _ | assumption | apply Ext.alloc | apply Ext.drew | apply Ext.drewN | (refine Ext.trans ?_ (by assumption)))))
                           | (go_at_call 35; refine (DoMeet_any _ _ _ _ _ _ _ _ _).mono ?_; rintro e w1 ⟨rfl, hb⟩; (try go_simp); refine hK _ _ ?_ ?_; (first | exact rfl); (repeat (first | exact Ext.refl _ | assumption | apply Ext.alloc | apply Ext.drew | apply Ext.drewN | (refine Ext.trans ?_ (by assumption))))))))
                  case hV4 => (simp only [List.forall_mem_cons]; simp [stable_is])
                  case fin4 =>
                    intro u w2 hW2 hC2 hd
                    simp only [AllV, is] at hd
                    simp only [hd]
                    clear hd
                    clear hmt
                    go_wp2
                    go_roundw
                    case rel =>
                      refine ⟨m + 1, by omega, by omega, by go_num, by (repeat (first | exact Ext.refl _ | assumption | apply Ext.alloc | apply Ext.drew | apply Ext.drewN | (refine Ext.trans ?_ (by assumption)))), fun j h1 h2 h3 => ?_⟩
                      by_cases e : j = m
                      · subst e; exact HMT.out
                      · exact HM.out j (by omega) h2 h3
                    case measure => simp [intOf]; omega
                · have HROW := hide (roomB_row hlt (rowI_meet hlm HA.out hmt))
                  unfold mt at hmt
                  go_wp2
                  refine wp_flow (by kernel_rfl) (by kernel_rfl) (fun u => ⟨#[_, _, _, _, _, _, _, _, _, _, _, _, _, _, _, _, _, _, _, _, _, _, _, _, _, _, _, _, _, _, _, _, _, _, _, _, _, _, _, _, _, _, _, _, _, _, _, _, _, _, _, u 0, u 1, u 2, u 3, u 4, u 5, u 6, u 7, u 8, u 9, u 10, u 11, u 12, u 13, _, _, _, _, _], _⟩) (fun i => List.getD [_, _, _, _, _, _, _, _, _, _, _, _, _, _] i undef) [is ?v5_0, is ?v5_1, is ?v5_2, is ?v5_3, is ?v5_4, is ?v5_5, is ?v5_6, is ?v5_7, is ?v5_8, is ?v5_9, is ?v5_10, is ?v5_11, is ?v5_12, is ?v5_13] (fun w' => w'.cell? ⟨wq.heap.size, 0, none⟩ = some (.int .i64 (gx l k)) ∧ w'.cell? ⟨wq.heap.size, 1, none⟩ = some (.int .i64 (gy l k)) ∧ w'.cell? ⟨wq.heap.size, 2, none⟩ = some (.int .i64 (gx l (nx l k))) ∧ w'.cell? ⟨wq.heap.size, 3, none⟩ = some (.int .i64 (gy l (nx l k))) ∧ w'.cell? ⟨g, m * 4, none⟩ = some (.int .i64 (gx l m)) ∧ w'.cell? ⟨g, m * 4 + 1, none⟩ = some (.int .i64 (gy l m)) ∧ w'.cell? ⟨g, m * 4 + 2, none⟩ = some (.int .i64 (gx l (nx l m))) ∧ w'.cell? ⟨g, m * 4 + 3, none⟩ = some (.int .i64 (gy l (nx l m)))) _ rfl ?hC5 ?hs5 ?hV5 ?fin5
                  case hC5 => (intro w' hx; and_intros <;> (first | (refine (Eq.trans (hx.cells _ _ ?_) ?_) <;> first | assumption | omega | (simp; done) | (simp; omega) | (simp [go_sem, World.cell?_alloc_past, *]; done)) | (have hz := hx.size; first | omega | (simp at hz; omega))))
                  case hs5 =>
                    repeat' (first
                      | exact FSteps.nil
                      | refine FSteps.cons ?_ ?_
                      | (refine FStep.off_ _ _ _ rfl rfl ?_ (fun _ => rfl) ?_; (focus (intro u w hd; simp [vOf, is, Region.binds] at hd; simp [hd])); (intro w'; exact rfl); done)
                      | ((first
                          | refine FStep.plain rfl ?_
                          | (refine FStep.on_ _ _ _ rfl rfl ?_ ?_; (focus (intro u w hd; simp [vOf, is, Region.binds] at hd; simp [hd]))))
                         intro u w hW hC hd K hK
                         (try simp [vOf, is, Region.binds] at hd)
                         simp only [upd, Nat.reduceEqDiff, if_true, if_false] at hK
                         (try simp only [hd] at hK)
                         go_simp
                         (first
                           | (refine hK _ _ ?_ ?_; (first | exact rfl); (repeat (first | exact Ext.refl _ | assumption | apply Ext.alloc | apply Ext.drew | apply Ext.drewN | (refine Ext.trans ?_ (by assumption)))))
                           | (go_at_call 35; refine (DoMeet_any _ _ _ _ _ _ _ _ _).mono ?_; rintro e w1 ⟨rfl, hb⟩; (try go_simp); refine hK _ _ ?_ ?_; (first | exact rfl); (repeat (first | exact Ext.refl _ | assumption | apply Ext.alloc | apply Ext.drew | apply Ext.drewN | (refine Ext.trans ?_ (by assumption))))))))
                  case hV5 => (simp only [List.forall_mem_cons]; simp [stable_is])
                  case fin5 =>
                    intro u w2 hW2 hC2 hd
                    simp only [AllV, is] at hd
                    simp only [hd]
                    clear hd
                    go_wp2
                    go_ret
                    exact ⟨by rw [HROW.out]; rfl, by (repeat (first | exact Ext.refl _ | assumption | apply Ext.alloc | apply Ext.drew | apply Ext.drewN | (refine Ext.trans ?_ (by assumption))))⟩
            · have HROW := hide (rowI_all HT.out (fun j h1 h2 => HM.out j (by omega) h1 h2))
              go_wp2
              go_roundw
              case rel =>
                refine ⟨k + 1, by omega, by go_num, by (repeat (first | exact Ext.refl _ | assumption | apply Ext.alloc | apply Ext.drew | apply Ext.drewN | (refine Ext.trans ?_ (by assumption)))), fun j hj => ?_⟩
                by_cases e : j = k
                · subst e; exact HROW.out
                · exact HR.out j (by omega)
              case measure => simp [intOf]; omega
    · have HEND := hide (roomB_end hs ha (fun i hi => HR.out i (by omega)))
      go_wp2_with (go_at_call 32; refine (area_any _ _ _ _ (hp.ext (by (repeat (first | exact Ext.refl _ | assumption | apply Ext.alloc | apply Ext.drew | apply Ext.drewN | (refine Ext.trans ?_ (by assumption)))))) hfine).mono ?_; rintro e w3 ⟨rfl, hb3⟩)
      go_ret
      exact ⟨by rw [HEND.out]; rfl, by (repeat (first | exact Ext.refl _ | assumption | apply Ext.alloc | apply Ext.drew | apply Ext.drewN | (refine Ext.trans ?_ (by assumption))))⟩

end Go.Proofs.Ytjccilpjaaiicaa

namespace Go.Proofs.Ytjccilpjaaiicaa
open Go.RowKit

/-- a pointer to a new block, whole -/
def NewP (lo : Nat) (cs : Array Value) (T : TypeId) (v : Value) (w : World) : Prop := ∃ b, v = .pointer (some ⟨b, 0, none⟩) ∧ lo ≤ b ∧ w.heap[b]? = some (.cells cs T (0, 0))
theorem heap_lt {w : World} {b : Nat} {o : Obj} (h : w.heap[b]? = some o) : b < w.heap.size := by
  rcases Nat.lt_or_ge b w.heap.size with h2 | h2
  · exact h2
  · rw [Array.getElem?_eq_none h2] at h; cases h
theorem blk_cell {w : World} {b : Nat} {cs : Array Value} {T : TypeId} (h : w.heap[b]? = some (.cells cs T (0, 0))) (o : Nat) : w.cell? ⟨b, o, none⟩ = cs[o]? := by simp [World.cell?, h]
theorem blk_free {w : World} {b : Nat} {cs : Array Value} {T : TypeId} (h : w.heap[b]? = some (.cells cs T (0, 0))) (o : Nat) : w.frozen? ⟨b, o, none⟩ = false := by simp [World.frozen?, h]
theorem NewP_stable (lo : Nat) (cs : Array Value) (T : TypeId) : Stable (NewP lo cs T) := by
  rintro v w w' ⟨b, rfl, h1, h2⟩ hx
  exact ⟨b, rfl, h1, (hx.below.block b (heap_lt h2)).trans h2⟩
theorem NewP_mk {lo : Nat} {cs : Array Value} (w : World) (T : TypeId) (h : lo ≤ w.heap.size) : NewP lo cs T (.pointer (some ⟨w.heap.size, 0, none⟩)) (w.alloc (.cells cs T)) := ⟨_, rfl, h, heap_alloc_new w _⟩

set_option maxRecDepth 100000 in
set_option maxHeartbeats 8000000 in
theorem sRoomOk_any (A : Option Addr) (l : List (Int × Int)) (c : Nat) (w : World) (hp : RPts w A l) (hn : l.length ≤ 1048576) :
    Calls Try.prog 38 #[.agg #[.slice A l.length c]] w fun e w' => e = .returned (.bool (roomB l)) ∧ Ext w w' := by
  have HB : Hid (∀ w', Ext (w.alloc (.cells #[.slice A l.length c] 26)) w' → w'.cell? ⟨w.heap.size, 0, none⟩ = some (.slice A l.length c)) := fun w' hx => by
    and_intros <;> (((first | rw [hx.cells _ _ (by first | (simp; done) | (simp; omega))] | rw [hx.frozens _ _ (by first | (simp; done) | (simp; omega))]); (first | (simp [go_sem]; done) | (simp [go_sem, World.cell?_alloc_past]; done) | (simp [go_sem, World.frozen?]; done))))
  have hin := sizeB_inB l
  cases hs : sizeB l
  · rw [roomB_size hs]
    rw [hs] at hin
    go_enter Try.func38, Try.ntmps38
    go_wp2_with (go_at_call 52; refine (l01In_any _ _ _ _).mono ?_; rintro e w1 ⟨rfl, rfl⟩)
    go_ret
    exact ⟨rfl, by (repeat (first | exact Ext.refl _ | assumption | apply Ext.alloc | apply Ext.drew | apply Ext.drewN | (refine Ext.trans ?_ (by assumption))))⟩
  rw [hs] at hin
  have hlen : 3 ≤ l.length ∧ l.length ≤ 10 := by unfold sizeB at hs; simpa using hs
  obtain ⟨hl3, hl10⟩ := hlen
  go_enter Try.func38, Try.ntmps38
  go_wp2_with (go_at_call 52; refine (l01In_any _ _ _ _).mono ?_; rintro e w1 ⟨rfl, rfl⟩)
  go_loopw [4] (fun i wr => ∃ k : Nat, k ≤ l.length ∧ i = .int .i64 k ∧ Ext (w.alloc (.cells #[.slice A l.length c] 26)) wr ∧ Hid (allok (l.take k) = true)) (fun i _ => l.length - (intOf i).toNat)
  case atStart => exact ⟨0, Nat.zero_le _, rfl, Ext.refl _, rfl⟩
  case round =>
    obtain ⟨k, hk, rfl, hbl, HOK⟩ := hrel
    obtain ⟨wp, rfl⟩ : ∃ wp : World, wp = wr := ⟨_, rfl⟩
    have hcb := HB.out wp hbl
    by_cases hlt : k < l.length
    · obtain ⟨b, off, rfl, hz1, hx, hy⟩ := (hp.ext (by (repeat (first | exact Ext.refl _ | assumption | apply Ext.alloc | apply Ext.drew | apply Ext.drewN | (refine Ext.trans ?_ (by assumption)))) : Ext w wp)).at_ hlt
      by_cases ho : pok (gx l k) (gy l k) = true
      · have HO := hide ho
        go_wp2_with (go_at_call 53; refine (spok_any _ _ _).mono ?_; rintro e w1 ⟨rfl, hb⟩)
        go_roundw
        case rel => exact ⟨k + 1, by omega, by go_num, by (repeat (first | exact Ext.refl _ | assumption | apply Ext.alloc | apply Ext.drew | apply Ext.drewN | (refine Ext.trans ?_ (by assumption)))), by unfold Hid; rw [allok_take_succ _ _ hlt, HOK.out, HO.out]; rfl⟩
        case measure => simp [intOf]; omega
      · have hf : pok (gx l k) (gy l k) = false := by simpa using ho
        have HF := hide (roomB_allok (allok_false _ _ hlt hf))
        go_wp2_with (go_at_call 53; refine (spok_any _ _ _).mono ?_; rintro e w1 ⟨rfl, hb⟩)
        go_ret
        exact ⟨by rw [HF.out]; rfl, by (repeat (first | exact Ext.refl _ | assumption | apply Ext.alloc | apply Ext.drew | apply Ext.drewN | (refine Ext.trans ?_ (by assumption))))⟩
    · have ha : allok l = true := by
        have e : l.take k = l := List.take_of_length_le (by omega)
        have := HOK.out
        rwa [e] at this
      have hfine : Fine l := ⟨ha, hl10⟩
      have HA := hide ha
      clear ha HOK hcb
      go_wp2
      go_loopw [5] (fun i wr => ∃ k : Nat, k ≤ l.length ∧ i = .int .i64 k ∧ Ext (w.alloc (.cells #[.slice A l.length c] 26)) wr ∧ Hid (∀ j, j < k → rowS l j = true)) (fun i _ => l.length - (intOf i).toNat)
      case atStart => exact ⟨0, Nat.zero_le _, rfl, hbl, fun j hj => absurd hj (by omega)⟩
      case round =>
        obtain ⟨q, hq, rfl, hbq, HR⟩ := hrel
        obtain ⟨wq, rfl⟩ : ∃ wq : World, wq = wr := ⟨_, rfl⟩
        clear hbl hk hlt
        have hcb := HB.out wq hbq
        have hszr : w.heap.size < wq.heap.size := by have := hbq.size; simp at this; omega
        by_cases hql : q < l.length
        · have hne : l ≠ [] := fun e => by rw [e] at hql; simp at hql
          have hm1 : nx l q < l.length := Nat.mod_lt _ (by omega)
          have hm2 : (q + 2) % l.length < l.length := Nat.mod_lt _ (by omega)
          have hpq : RPts wq A l := hp.ext (by (repeat (first | exact Ext.refl _ | assumption | apply Ext.alloc | apply Ext.drew | apply Ext.drewN | (refine Ext.trans ?_ (by assumption)))))
          obtain ⟨b, off, rfl, hz1, hx0, hy0⟩ := hpq.at_ hql
          obtain ⟨b', off', hA', _, hx1, hy1⟩ := hpq.at_ hm1
          injection hA' with hA'; injection hA' with e1 e2 _; subst e1 e2
          obtain ⟨b', off', hA', _, hx2, hy2⟩ := hpq.at_ hm2
          injection hA' with hA'; injection hA' with e1 e2 _; subst e1 e2
          obtain ⟨q1, q2, q3, q4, q5⟩ := idx_facts ((q : Int) + 1) (q + 1) l.length (by omega) (by omega) (by omega)
          unfold nx at hx1 hy1
          have hz2 : b < (wq.alloc (.cells #[.int .i64 (gx l q), .int .i64 (gy l q)] 28)).heap.size := by simp; omega
          have hz3 : w.heap.size < (wq.alloc (.cells #[.int .i64 (gx l q), .int .i64 (gy l q)] 28)).heap.size := by simp; omega
          go_wp2
          refine wp_flow_tail 9 (by kernel_rfl) (by kernel_rfl) (by kernel_rfl) (by kernel_rfl) (fun u => ⟨#[_, _, _, _, _, _, _, u 8, _, _, _, _, _, _, _, _, _, _, _, _, _, _, _, _, _, _, _, _, _, _, _, _, _, _, _, _, _, u 0, u 1, u 2, u 3, u 4, u 5, u 6, u 7, _, _, _, _, _, _, _, _, _, _, _, _, _, _, _, _, _, _, _, _, _, _, _, _, _, _, _, _, _, _, _, _, _, _, _, _, _, _, _, _, _, _, _, _, _, _, _, _, _, _, _, _, _, _, _, _, _, _], _⟩) (fun i => List.getD [_, _, _, _, _, _, _, _, _] i undef) [is ?v1_0, is ?v1_1, is ?v1_2, is ?v1_3, is ?v1_4, is ?v1_5, is ?v1_6, is ?v1_7, (NewP (wq.heap.size + 1) #[.int .i64 0, .int .i64 0] 28)] (fun w' => w'.cell? ⟨wq.heap.size, 0, none⟩ = some (.int .i64 (gx l q)) ∧ w'.cell? ⟨wq.heap.size, 1, none⟩ = some (.int .i64 (gy l q)) ∧ w'.cell? ⟨w.heap.size, 0, none⟩ = some (.slice (some ⟨b, off, none⟩) l.length c) ∧ w'.cell? ⟨b, off + (q + 1) % l.length * 2, none⟩ = some (.int .i64 (gx l ((q + 1) % l.length))) ∧ w'.cell? ⟨b, off + (q + 1) % l.length * 2 + 1, none⟩ = some (.int .i64 (gy l ((q + 1) % l.length))) ∧ w'.cell? ⟨b, off + (q + 2) % l.length * 2, none⟩ = some (.int .i64 (gx l ((q + 2) % l.length))) ∧ w'.cell? ⟨b, off + (q + 2) % l.length * 2 + 1, none⟩ = some (.int .i64 (gy l ((q + 2) % l.length))) ∧ wq.heap.size + 1 ≤ w'.heap.size) _ rfl ?hC1 ?hs1 ?hV1 ?fin1
          case hC1 => (intro w' hx; and_intros <;> (first | (refine (Eq.trans (hx.cells _ _ ?_) ?_) <;> first | assumption | omega | (simp; done) | (simp; omega) | (simp [go_sem, World.cell?_alloc_past, *]; done)) | (have hz := hx.size; first | omega | (simp at hz; omega))))
          case hs1 =>
            repeat' (first
              | exact FSteps.nil
              | refine FSteps.cons ?_ ?_
              | (refine FStep.off_ _ _ _ rfl rfl ?_ (fun _ => rfl) ?_; (focus (intro u w hd; simp [vOf, is, Region.binds] at hd; simp [hd])); (intro w'; exact rfl); done)
              | ((first
                  | refine FStep.plain rfl ?_
                  | (refine FStep.on_ _ _ _ rfl rfl ?_ ?_; (focus (intro u w hd; simp [vOf, is, Region.binds] at hd; simp [hd]))))
                 intro u w hW hC hd K hK
                 (try simp [vOf, is, Region.binds] at hd)
                 simp only [upd, Nat.reduceEqDiff, if_true, if_false] at hK
                 (try simp only [hd] at hK)
                 go_simp
                 (first
                   | (refine hK _ _ ?_ ?_; (first | exact rfl | exact NewP_mk _ _ hC.2.2.2.2.2.2.2); (repeat (first | exact Ext.refl _ | assumption | apply Ext.alloc | apply Ext.drew | apply Ext.drewN | (refine Ext.trans ?_ (by assumption))))))))
          case hV1 => (simp only [List.forall_mem_cons]; simp [stable_is, NewP_stable])
          case fin1 =>
            intro u w2 hW2 hC2 hd
            simp only [AllV, is] at hd
            have hs8 := hd.2.2.2.2.2.2.2.2.1
            simp only [List.drop_succ_cons, List.drop_zero]
            simp only [hd]
            clear hd
            obtain ⟨bq, hu, hlo, hblk⟩ := hs8
            simp only [hu]
            have y1 : w2.cell? ⟨bq, 0, none⟩ = some (.int .i64 0) := by rw [blk_cell hblk]; rfl
            have y2 : w2.cell? ⟨bq, 1, none⟩ = some (.int .i64 0) := by rw [blk_cell hblk]; rfl
            have y3 := blk_free hblk 0
            have y4 := blk_free hblk 1
            go_wp2
            have hW3 : Ext wq w2 := by (repeat (first | exact Ext.refl _ | assumption | apply Ext.alloc | apply Ext.drew | apply Ext.drewN | (refine Ext.trans ?_ (by assumption))))
            have hsz2 : wq.heap.size < w2.heap.size := by have := hW2.size; simp at this; omega
            have hbq2 := heap_lt hblk
            obtain ⟨d1, d2, d3, d4, d5, d6, d7, d8⟩ := hC2
            have F : ∀ w3, w3 = (w2.setCell ⟨bq, 0, none⟩ (.int .i64 (gx l ((q + 1) % l.length)))).setCell ⟨bq, 1, none⟩ (.int .i64 (gy l ((q + 1) % l.length))) →
                Ext wq w3 ∧ bq < w3.heap.size ∧ wq.heap.size < w3.heap.size ∧ w3.cell? ⟨wq.heap.size, 0, none⟩ = some (.int .i64 (gx l q)) ∧ w3.cell? ⟨wq.heap.size, 1, none⟩ = some (.int .i64 (gy l q)) ∧
                w3.cell? ⟨bq, 0, none⟩ = some (.int .i64 (gx l ((q + 1) % l.length))) ∧ w3.cell? ⟨bq, 1, none⟩ = some (.int .i64 (gy l ((q + 1) % l.length))) := by
              rintro w3 rfl
              have far : ∀ (o : Nat), ((w2.setCell ⟨bq, 0, none⟩ (.int .i64 (gx l ((q + 1) % l.length)))).setCell ⟨bq, 1, none⟩ (.int .i64 (gy l ((q + 1) % l.length)))).cell? ⟨wq.heap.size, o, none⟩ = w2.cell? ⟨wq.heap.size, o, none⟩ := fun o =>
                World.cell?_of_block (w := w2) (a := ⟨wq.heap.size, o, none⟩) ((Below.heap_setCell _ _ _ _ (by simp; omega)).trans (Below.heap_setCell _ _ _ _ (by simp; omega)))
              refine ⟨(hW3.setCell (by simp; omega) _).setCell (by simp; omega) _, by simpa [size_setCell] using hbq2, by simpa [size_setCell] using hsz2, (far 0).trans d1, (far 1).trans d2, ?_, ?_⟩
              · simp [go_sem, y1]
              · simp [go_sem, y2]
            clear d1 d2 d3 d4 d5 d6 d7 d8 y1 y2 y3 y4 hblk hlo hsz2 hbq2 q1 q2 q3 q4 q5 hx0 hy0 hx1 hy1 hz2 hz3
            generalize (w2.setCell ⟨bq, 0, none⟩ (.int .i64 (gx l ((q + 1) % l.length)))).setCell ⟨bq, 1, none⟩ (.int .i64 (gy l ((q + 1) % l.length))) = w3 at F ⊢
            obtain ⟨hx3, hbq3, hwq3, f1, f2, f3, f4⟩ := F _ rfl
            have g1 := (hx3.cells _ _ hszr).trans hcb
            have g2 := (hx3.cells _ _ hz1).trans hx2
            have g3 := (hx3.cells _ _ hz1).trans hy2
            have hz4 : b < w3.heap.size := Nat.lt_of_lt_of_le hz1 hx3.size
            have hz5 : w.heap.size < w3.heap.size := Nat.lt_of_lt_of_le hszr hx3.size
            clear hx2 hy2 hcb hu hW3 hW2 F
            obtain ⟨q1, q2, q3, q4, q5⟩ := idx_facts ((q : Int) + 2) (q + 2) l.length (by omega) (by omega) (by omega)
            by_cases ht : tn l q = 0
            · have HROW := hide (roomB_rowS hql (rowS_turn ht))
              unfold tn nx at ht
              refine wp_flow (by kernel_rfl) (by kernel_rfl) (fun u => ⟨#[_, _, _, _, _, _, _, _, _, _, _, _, _, _, _, _, _, _, _, _, _, _, _, _, _, _, _, _, _, _, _, _, _, _, _, _, _, _, _, _, _, _, _, _, _, u 0, u 1, u 2, u 3, u 4, u 5, u 6, u 7, u 8, u 9, u 10, u 11, _, _, _, _, _, _, _, _, _, _, _, _, _, _, _, _, _, _, _, _, _, _, _, _, _, _, _, _, _, _, _, _, _, _, _, _, _, _, _, _, _, _, _, _, _, _], _⟩) (fun i => List.getD [_, _, _, _, _, _, _, _, _, _, _, _] i undef) [is ?v2_0, is ?v2_1, is ?v2_2, is ?v2_3, is ?v2_4, is ?v2_5, is ?v2_6, is ?v2_7, is ?v2_8, is ?v2_9, is ?v2_10, is ?v2_11] (fun w' => w'.cell? ⟨wq.heap.size, 0, none⟩ = some (.int .i64 (gx l q)) ∧ w'.cell? ⟨wq.heap.size, 1, none⟩ = some (.int .i64 (gy l q)) ∧ w'.cell? ⟨bq, 0, none⟩ = some (.int .i64 (gx l ((q + 1) % l.length))) ∧ w'.cell? ⟨bq, 1, none⟩ = some (.int .i64 (gy l ((q + 1) % l.length))) ∧ w'.cell? ⟨w.heap.size, 0, none⟩ = some (.slice (some ⟨b, off, none⟩) l.length c) ∧ w'.cell? ⟨b, off + (q + 2) % l.length * 2, none⟩ = some (.int .i64 (gx l ((q + 2) % l.length))) ∧ w'.cell? ⟨b, off + (q + 2) % l.length * 2 + 1, none⟩ = some (.int .i64 (gy l ((q + 2) % l.length)))) _ rfl ?hC2 ?hs2 ?hV2 ?fin2
              case hC2 => (intro w' hx; and_intros <;> (first | (refine (Eq.trans (hx.cells _ _ ?_) ?_) <;> first | assumption | omega | (simp; done) | (simp; omega) | (simp [go_sem, World.cell?_alloc_past, *]; done)) | (have hz := hx.size; first | omega | (simp at hz; omega))))
              case hs2 =>
                repeat' (first
                  | exact FSteps.nil
                  | refine FSteps.cons ?_ ?_
                  | (refine FStep.off_ _ _ _ rfl rfl ?_ (fun _ => rfl) ?_; (focus (intro u w hd; simp [vOf, is, Region.binds] at hd; simp [hd])); (intro w'; exact rfl); done)
                  | ((first
                      | refine FStep.plain rfl ?_
                      | (refine FStep.on_ _ _ _ rfl rfl ?_ ?_; (focus (intro u w hd; simp [vOf, is, Region.binds] at hd; simp [hd]))))
                     intro u w hW hC hd K hK
                     (try simp [vOf, is, Region.binds] at hd)
                     simp only [upd, Nat.reduceEqDiff, if_true, if_false] at hK
                     (try simp only [hd] at hK)
                     go_simp
                     (first
                       | (refine hK _ _ ?_ ?_; (first | exact rfl); (repeat (first | exact Ext.refl _ | assumption | apply Ext.alloc | apply Ext.drew | apply Ext.drewN | (refine Ext.trans ?_ (by assumption)))))
                       | (go_at_call 54; refine (sturn_any _ _ _ _ _ _ _).mono ?_; rintro e w1 ⟨rfl, hb⟩; (try go_simp); refine hK _ _ ?_ ?_; (first | exact rfl); (repeat (first | exact Ext.refl _ | assumption | apply Ext.alloc | apply Ext.drew | apply Ext.drewN | (refine Ext.trans ?_ (by assumption))))))))
              case hV2 => (simp only [List.forall_mem_cons]; simp [stable_is])
              case fin2 =>
                intro u w2 hW2 hC2 hd
                simp only [AllV, is] at hd
                simp only [hd]
                clear hd
                go_wp2
                go_ret
                exact ⟨by rw [HROW.out]; rfl, by (repeat (first | exact Ext.refl _ | assumption | apply Ext.alloc | apply Ext.drew | apply Ext.drewN | (refine Ext.trans ?_ (by assumption))))⟩
            · have HT := hide ht
              unfold tn nx at ht
              have ht2 : (turnW (gx l q) (gy l q) (gx l ((q + 1) % l.length)) (gy l ((q + 1) % l.length)) (gx l ((q + 2) % l.length)) (gy l ((q + 2) % l.length)) == 0) = false := by simpa using ht
              refine wp_flow (by kernel_rfl) (by kernel_rfl) (fun u => ⟨#[_, _, _, _, _, _, _, _, _, _, _, _, _, _, _, _, _, _, _, _, _, _, _, _, _, _, _, _, _, _, _, _, _, _, _, _, _, _, _, _, _, _, _, _, _, u 0, u 1, u 2, u 3, u 4, u 5, u 6, u 7, u 8, u 9, u 10, u 11, _, _, _, _, _, _, _, _, _, _, _, _, _, _, _, _, _, _, _, _, _, _, _, _, _, _, _, _, _, _, _, _, _, _, _, _, _, _, _, _, _, _, _, _, _, _], _⟩) (fun i => List.getD [_, _, _, _, _, _, _, _, _, _, _, _] i undef) [is ?v3_0, is ?v3_1, is ?v3_2, is ?v3_3, is ?v3_4, is ?v3_5, is ?v3_6, is ?v3_7, is ?v3_8, is ?v3_9, is ?v3_10, is ?v3_11] (fun w' => w'.cell? ⟨wq.heap.size, 0, none⟩ = some (.int .i64 (gx l q)) ∧ w'.cell? ⟨wq.heap.size, 1, none⟩ = some (.int .i64 (gy l q)) ∧ w'.cell? ⟨bq, 0, none⟩ = some (.int .i64 (gx l ((q + 1) % l.length))) ∧ w'.cell? ⟨bq, 1, none⟩ = some (.int .i64 (gy l ((q + 1) % l.length))) ∧ w'.cell? ⟨w.heap.size, 0, none⟩ = some (.slice (some ⟨b, off, none⟩) l.length c) ∧ w'.cell? ⟨b, off + (q + 2) % l.length * 2, none⟩ = some (.int .i64 (gx l ((q + 2) % l.length))) ∧ w'.cell? ⟨b, off + (q + 2) % l.length * 2 + 1, none⟩ = some (.int .i64 (gy l ((q + 2) % l.length)))) _ rfl ?hC3 ?hs3 ?hV3 ?fin3
              case hC3 => (intro w' hx; and_intros <;> (first | (refine (Eq.trans (hx.cells _ _ ?_) ?_) <;> first | assumption | omega | (simp; done) | (simp; omega) | (simp [go_sem, World.cell?_alloc_past, *]; done)) | (have hz := hx.size; first | omega | (simp at hz; omega))))
              case hs3 =>
                repeat' (first
                  | exact FSteps.nil
                  | refine FSteps.cons ?_ ?_
                  | (refine FStep.off_ _ _ _ rfl rfl ?_ (fun _ => rfl) ?_; (focus (intro u w hd; simp [vOf, is, Region.binds] at hd; simp [hd])); (intro w'; exact rfl); done)
                  | ((first
                      | refine FStep.plain rfl ?_
                      | (refine FStep.on_ _ _ _ rfl rfl ?_ ?_; (focus (intro u w hd; simp [vOf, is, Region.binds] at hd; simp [hd]))))
                     intro u w hW hC hd K hK
                     (try simp [vOf, is, Region.binds] at hd)
                     simp only [upd, Nat.reduceEqDiff, if_true, if_false] at hK
                     (try simp only [hd] at hK)
                     go_simp
                     (first
                       | (refine hK _ _ ?_ ?_; (first | exact rfl); (repeat (first | exact Ext.refl _ | assumption | apply Ext.alloc | apply Ext.drew | apply Ext.drewN | (refine Ext.trans ?_ (by assumption)))))
                       | (go_at_call 54; refine (sturn_any _ _ _ _ _ _ _).mono ?_; rintro e w1 ⟨rfl, hb⟩; (try go_simp); refine hK _ _ ?_ ?_; (first | exact rfl); (repeat (first | exact Ext.refl _ | assumption | apply Ext.alloc | apply Ext.drew | apply Ext.drewN | (refine Ext.trans ?_ (by assumption))))))))
              case hV3 => (simp only [List.forall_mem_cons]; simp [stable_is])
              case fin3 =>
                intro u w2 hW2 hC2 hd
                simp only [AllV, is] at hd
                simp only [hd]
                clear hd
                clear ht ht2 g2 g3 q1 q2 q3 q4 q5 hC2
                have hx4 : Ext wq w2 := by (repeat (first | exact Ext.refl _ | assumption | apply Ext.alloc | apply Ext.drew | apply Ext.drewN | (refine Ext.trans ?_ (by assumption))))
                have HW : Hid (∀ w', Ext w2 w' → (bq < w'.heap.size ∧ wq.heap.size < w'.heap.size ∧ w.heap.size < w'.heap.size) ∧ w'.cell? ⟨wq.heap.size, 0, none⟩ = some (.int .i64 (gx l q)) ∧ w'.cell? ⟨wq.heap.size, 1, none⟩ = some (.int .i64 (gy l q)) ∧
                    w'.cell? ⟨bq, 0, none⟩ = some (.int .i64 (gx l ((q + 1) % l.length))) ∧ w'.cell? ⟨bq, 1, none⟩ = some (.int .i64 (gy l ((q + 1) % l.length))) ∧ w'.cell? ⟨w.heap.size, 0, none⟩ = some (.slice (some ⟨b, off, none⟩) l.length c)) := fun w' hx => by
                  have h34 : Ext w3 w' := hW2.trans hx
                  have := h34.size
                  exact ⟨⟨by omega, by omega, by omega⟩, (h34.cells _ _ hwq3).trans f1, (h34.cells _ _ hwq3).trans f2, (h34.cells _ _ hbq3).trans f3, (h34.cells _ _ hbq3).trans f4, (h34.cells _ _ hz5).trans g1⟩
                clear f1 f2 f3 f4 g1 hwq3 hbq3 hz4 hz5 hx3 hW2
                obtain ⟨wo, rfl⟩ : ∃ wo : World, wo = w2 := ⟨_, rfl⟩
                go_wp2
                go_loopw [8] (fun x wi => ∃ m : Nat, m ≤ l.length ∧ x = .int .i64 m ∧ Ext wo wi ∧ Hid (∀ j, j < m → j < l.length → askS l q j = true → mt l q j = false)) (fun x _ => l.length - (intOf x).toNat)
                case atStart => exact ⟨0, Nat.zero_le _, rfl, Ext.refl _, fun j h1 _ _ => absurd h1 (by omega)⟩
                case round =>
                  obtain ⟨m, hm, rfl, hxi, HM⟩ := hrel
                  obtain ⟨⟨s1, s2, s3⟩, v1, v2, v3, v4, v5⟩ := HW.out _ hxi
                  by_cases hlm : m < l.length
                  · have hnm : nx l m < l.length := Nat.mod_lt _ (by omega)
                    have hpi : RPts _ (some ⟨b, off, none⟩) l := (hpq.ext hx4).ext hxi
                    obtain ⟨b', off', hA', s4, m1, m2⟩ := hpi.at_ hlm
                    injection hA' with hA'; injection hA' with e1 e2 _; subst e1 e2
                    obtain ⟨b', off', hA', _, m3, m4⟩ := hpi.at_ hnm
                    injection hA' with hA'; injection hA' with e1 e2 _; subst e1 e2
                    unfold nx at m3 m4 hnm
                    obtain ⟨q1, q2, q3, q4, q5⟩ := idx_facts ((m : Int) + 1) (m + 1) l.length (by omega) (by omega) (by omega)
                    obtain ⟨r1, r2, r3, r4, r5⟩ := idx_facts ((q : Int) + 1) (q + 1) l.length (by omega) (by omega) (by omega)
                    have B1 : ((m : Int) == (q : Int)) = (m == q) := by rw [Bool.eq_iff_iff, beq_iff_eq, beq_iff_eq]; omega
                    have B2 : (((m : Int) + 1) % (l.length : Int) == (q : Int)) = ((m + 1) % l.length == q) := by rw [Bool.eq_iff_iff, beq_iff_eq, beq_iff_eq]; omega
                    have B3 : (((q : Int) + 1) % (l.length : Int) == (m : Int)) = ((q + 1) % l.length == m) := by rw [Bool.eq_iff_iff, beq_iff_eq, beq_iff_eq]; omega
                    clear r5
                    cases e1 : (m == q)
                    · rw [e1] at B1
                      cases e2 : ((m + 1) % l.length == q)
                      · rw [e2] at B2
                        cases e3 : ((q + 1) % l.length == m)
                        · rw [e3] at B3
                          have HA := hide (show askS l q m = true by simp only [askS, e1, e2, e3]; rfl)
                          clear e1 e2 e3
                          cases hmt : mt l q m
                          · have HMT := hide hmt
                            unfold mt nx at hmt
                            go_wp2
                            refine wp_flow (by kernel_rfl) (by kernel_rfl) (fun u => ⟨#[_, _, _, _, _, _, _, _, _, _, _, _, _, _, _, _, _, _, _, _, _, _, _, _, _, _, _, _, _, _, _, _, _, _, _, _, _, _, _, _, _, _, _, _, _, _, _, _, _, _, _, _, _, _, _, _, _, _, _, _, _, _, _, _, _, _, _, _, _, _, _, _, _, _, _, _, _, _, _, _, _, u 0, u 1, u 2, u 3, u 4, u 5, u 6, u 7, u 8, u 9, u 10, u 11, u 12, u 13, u 14, u 15, u 16, u 17, _, _, _, _], _⟩) (fun i => List.getD [_, _, _, _, _, _, _, _, _, _, _, _, _, _, _, _, _, _] i undef) [is ?v4_0, is ?v4_1, is ?v4_2, is ?v4_3, is ?v4_4, is ?v4_5, is ?v4_6, is ?v4_7, is ?v4_8, is ?v4_9, is ?v4_10, is ?v4_11, is ?v4_12, is ?v4_13, is ?v4_14, is ?v4_15, is ?v4_16, is ?v4_17] (fun w' => w'.cell? ⟨wq.heap.size, 0, none⟩ = some (.int .i64 (gx l q)) ∧ w'.cell? ⟨wq.heap.size, 1, none⟩ = some (.int .i64 (gy l q)) ∧ w'.cell? ⟨bq, 0, none⟩ = some (.int .i64 (gx l ((q + 1) % l.length))) ∧ w'.cell? ⟨bq, 1, none⟩ = some (.int .i64 (gy l ((q + 1) % l.length))) ∧ w'.cell? ⟨w.heap.size, 0, none⟩ = some (.slice (some ⟨b, off, none⟩) l.length c) ∧ w'.cell? ⟨b, off + m * 2, none⟩ = some (.int .i64 (gx l m)) ∧ w'.cell? ⟨b, off + m * 2 + 1, none⟩ = some (.int .i64 (gy l m)) ∧ w'.cell? ⟨b, off + (m + 1) % l.length * 2, none⟩ = some (.int .i64 (gx l ((m + 1) % l.length))) ∧ w'.cell? ⟨b, off + (m + 1) % l.length * 2 + 1, none⟩ = some (.int .i64 (gy l ((m + 1) % l.length)))) _ rfl ?hC4 ?hs4 ?hV4 ?fin4
                            case hC4 => (intro w' hx; and_intros <;> (first | (refine (Eq.trans (hx.cells _ _ ?_) ?_) <;> first | assumption | omega | (simp; done) | (simp; omega) | (simp [go_sem, World.cell?_alloc_past, *]; done)) | (have hz := hx.size; first | omega | (simp at hz; omega))))
                            case hs4 =>
                              repeat' (first
                                | exact FSteps.nil
                                | refine FSteps.cons ?_ ?_
                                | (refine FStep.off_ _ _ _ rfl rfl ?_ (fun _ => rfl) ?_; (focus (intro u w hd; simp [vOf, is, Region.binds] at hd; simp [hd])); (intro w'; exact rfl); done)
                                | ((first
                                    | refine FStep.plain rfl ?_
                                    | (refine FStep.on_ _ _ _ rfl rfl ?_ ?_; (focus (intro u w hd; simp [vOf, is, Region.binds] at hd; simp [hd]))))
                                   intro u w hW hC hd K hK
                                   (try simp [vOf, is, Region.binds] at hd)
                                   simp only [upd, Nat.reduceEqDiff, if_true, if_false] at hK
                                   (try simp only [hd] at hK)
                                   go_simp
                                   (first
                                     | (refine hK _ _ ?_ ?_; (first | exact rfl); (repeat (first | exact Ext.refl _ | assumption | apply Ext.alloc | apply Ext.drew | apply Ext.drewN | (refine Ext.trans ?_ (by assumption)))))
                                     | (go_at_call 55; refine (sDoMeet_any _ _ _ _ _ _ _ _ _).mono ?_; rintro e w1 ⟨rfl, hb⟩; (try go_simp); refine hK _ _ ?_ ?_; (first | exact rfl); (repeat (first | exact Ext.refl _ | assumption | apply Ext.alloc | apply Ext.drew | apply Ext.drewN | (refine Ext.trans ?_ (by assumption))))))))
                            case hV4 => (simp only [List.forall_mem_cons]; simp [stable_is])
                            case fin4 =>
                              intro u w2 hW2 hC2 hd
                              simp only [AllV, is] at hd
                              simp only [hd]
                              clear hd
                              clear hC2
                              go_wp2
                              go_roundw
                              case rel =>
                                refine ⟨m + 1, by omega, by go_num, by (repeat (first | exact Ext.refl _ | assumption | apply Ext.alloc | apply Ext.drew | apply Ext.drewN | (refine Ext.trans ?_ (by assumption)))), fun j h1 h2 h3 => ?_⟩
                                by_cases e : j = m
                                · subst e; exact HMT.out
                                · exact HM.out j (by omega) h2 h3
                              case measure => simp [intOf]; omega
                          · have HROW := hide (roomB_rowS hql (rowS_meet hlm HA.out hmt))
                            unfold mt nx at hmt
                            go_wp2
                            refine wp_flow (by kernel_rfl) (by kernel_rfl) (fun u => ⟨#[_, _, _, _, _, _, _, _, _, _, _, _, _, _, _, _, _, _, _, _, _, _, _, _, _, _, _, _, _, _, _, _, _, _, _, _, _, _, _, _, _, _, _, _, _, _, _, _, _, _, _, _, _, _, _, _, _, _, _, _, _, _, _, _, _, _, _, _, _, _, _, _, _, _, _, _, _, _, _, _, _, u 0, u 1, u 2, u 3, u 4, u 5, u 6, u 7, u 8, u 9, u 10, u 11, u 12, u 13, u 14, u 15, u 16, u 17, _, _, _, _], _⟩) (fun i => List.getD [_, _, _, _, _, _, _, _, _, _, _, _, _, _, _, _, _, _] i undef) [is ?v5_0, is ?v5_1, is ?v5_2, is ?v5_3, is ?v5_4, is ?v5_5, is ?v5_6, is ?v5_7, is ?v5_8, is ?v5_9, is ?v5_10, is ?v5_11, is ?v5_12, is ?v5_13, is ?v5_14, is ?v5_15, is ?v5_16, is ?v5_17] (fun w' => w'.cell? ⟨wq.heap.size, 0, none⟩ = some (.int .i64 (gx l q)) ∧ w'.cell? ⟨wq.heap.size, 1, none⟩ = some (.int .i64 (gy l q)) ∧ w'.cell? ⟨bq, 0, none⟩ = some (.int .i64 (gx l ((q + 1) % l.length))) ∧ w'.cell? ⟨bq, 1, none⟩ = some (.int .i64 (gy l ((q + 1) % l.length))) ∧ w'.cell? ⟨w.heap.size, 0, none⟩ = some (.slice (some ⟨b, off, none⟩) l.length c) ∧ w'.cell? ⟨b, off + m * 2, none⟩ = some (.int .i64 (gx l m)) ∧ w'.cell? ⟨b, off + m * 2 + 1, none⟩ = some (.int .i64 (gy l m)) ∧ w'.cell? ⟨b, off + (m + 1) % l.length * 2, none⟩ = some (.int .i64 (gx l ((m + 1) % l.length))) ∧ w'.cell? ⟨b, off + (m + 1) % l.length * 2 + 1, none⟩ = some (.int .i64 (gy l ((m + 1) % l.length)))) _ rfl ?hC5 ?hs5 ?hV5 ?fin5
                            case hC5 => (intro w' hx; and_intros <;> (first | (refine (Eq.trans (hx.cells _ _ ?_) ?_) <;> first | assumption | omega | (simp; done) | (simp; omega) | (simp [go_sem, World.cell?_alloc_past, *]; done)) | (have hz := hx.size; first | omega | (simp at hz; omega))))
                            case hs5 =>
                              repeat' (first
                                | exact FSteps.nil
                                | refine FSteps.cons ?_ ?_
                                | (refine FStep.off_ _ _ _ rfl rfl ?_ (fun _ => rfl) ?_; (focus (intro u w hd; simp [vOf, is, Region.binds] at hd; simp [hd])); (intro w'; exact rfl); done)
                                | ((first
                                    | refine FStep.plain rfl ?_
                                    | (refine FStep.on_ _ _ _ rfl rfl ?_ ?_; (focus (intro u w hd; simp [vOf, is, Region.binds] at hd; simp [hd]))))
                                   intro u w hW hC hd K hK
                                   (try simp [vOf, is, Region.binds] at hd)
                                   simp only [upd, Nat.reduceEqDiff, if_true, if_false] at hK
                                   (try simp only [hd] at hK)
                                   go_simp
                                   (first
                                     | (refine hK _ _ ?_ ?_; (first | exact rfl); (repeat (first | exact Ext.refl _ | assumption | apply Ext.alloc | apply Ext.drew | apply Ext.drewN | (refine Ext.trans ?_ (by assumption)))))
                                     | (go_at_call 55; refine (sDoMeet_any _ _ _ _ _ _ _ _ _).mono ?_; rintro e w1 ⟨rfl, hb⟩; (try go_simp); refine hK _ _ ?_ ?_; (first | exact rfl); (repeat (first | exact Ext.refl _ | assumption | apply Ext.alloc | apply Ext.drew | apply Ext.drewN | (refine Ext.trans ?_ (by assumption))))))))
                            case hV5 => (simp only [List.forall_mem_cons]; simp [stable_is])
                            case fin5 =>
                              intro u w2 hW2 hC2 hd
                              simp only [AllV, is] at hd
                              simp only [hd]
                              clear hd
                              clear hC2
                              go_wp2
                              go_ret
                              exact ⟨by rw [HROW.out]; rfl, by (repeat (first | exact Ext.refl _ | assumption | apply Ext.alloc | apply Ext.drew | apply Ext.drewN | (refine Ext.trans ?_ (by assumption))))⟩
                        · rw [e3] at B3
                          have HA := hide (show askS l q m = false by simp only [askS, e1, e2, e3]; rfl)
                          clear e1 e2 e3
                          go_wp2
                          go_roundw
                          case rel =>
                            refine ⟨m + 1, by omega, by go_num, by (repeat (first | exact Ext.refl _ | assumption | apply Ext.alloc | apply Ext.drew | apply Ext.drewN | (refine Ext.trans ?_ (by assumption)))), fun j h1 h2 h3 => ?_⟩
                            by_cases e : j = m
                            · subst e; rw [HA.out] at h3; cases h3
                            · exact HM.out j (by omega) h2 h3
                          case measure => simp [intOf]; omega
                      · rw [e2] at B2
                        have HA := hide (show askS l q m = false by simp only [askS, e1, e2]; rfl)
                        clear e1 e2
                        go_wp2
                        go_roundw
                        case rel =>
                          refine ⟨m + 1, by omega, by go_num, by (repeat (first | exact Ext.refl _ | assumption | apply Ext.alloc | apply Ext.drew | apply Ext.drewN | (refine Ext.trans ?_ (by assumption)))), fun j h1 h2 h3 => ?_⟩
                          by_cases e : j = m
                          · subst e; rw [HA.out] at h3; cases h3
                          · exact HM.out j (by omega) h2 h3
                        case measure => simp [intOf]; omega
                    · rw [e1] at B1
                      have HA := hide (show askS l q m = false by simp only [askS, e1]; rfl)
                      clear e1
                      go_wp2
                      go_roundw
                      case rel =>
                        refine ⟨m + 1, by omega, by go_num, by (repeat (first | exact Ext.refl _ | assumption | apply Ext.alloc | apply Ext.drew | apply Ext.drewN | (refine Ext.trans ?_ (by assumption)))), fun j h1 h2 h3 => ?_⟩
                        by_cases e : j = m
                        · subst e; rw [HA.out] at h3; cases h3
                        · exact HM.out j (by omega) h2 h3
                      case measure => simp [intOf]; omega
                  · have HROW := hide (rowS_all HT.out (fun j h1 h2 => HM.out j (by omega) h1 h2))
                    go_wp2
                    go_roundw
                    case rel =>
                      refine ⟨q + 1, by omega, by go_num, by (repeat (first | exact Ext.refl _ | assumption | apply Ext.alloc | apply Ext.drew | apply Ext.drewN | (refine Ext.trans ?_ (by assumption)))), fun j hj => ?_⟩
                      by_cases e : j = q
                      · subst e; exact HROW.out
                      · exact HR.out j (by omega)
                    case measure => simp [intOf]; omega
        · have HEND := hide (roomB_endS hs HA.out (fun i hi => HR.out i (by omega)))
          go_wp2_with (go_at_call 56; refine (sArea_any _ _ _ _ (hp.ext (by (repeat (first | exact Ext.refl _ | assumption | apply Ext.alloc | apply Ext.drew | apply Ext.drewN | (refine Ext.trans ?_ (by assumption)))))) hfine).mono ?_; rintro e w3 ⟨rfl, hb3⟩)
          go_ret
          exact ⟨by rw [HEND.out]; rfl, by (repeat (first | exact Ext.refl _ | assumption | apply Ext.alloc | apply Ext.drew | apply Ext.drewN | (refine Ext.trans ?_ (by assumption))))⟩

end Go.Proofs.Ytjccilpjaaiicaa

namespace Go.Proofs.Ytjccilpjaaiicaa
open Go.RowKit

/-- Blocks in [lo, hi) may have turned, no other; none has come. -/
structure Chg (lo hi : Nat) (w w' : World) : Prop where
  os : w'.os = w.os
  tape : w'.tape = w.tape
  output : w'.output = w.output
  size : w'.heap.size = w.heap.size
  block : ∀ k, ¬ (lo ≤ k ∧ k < hi) → w'.heap[k]? = w.heap[k]?

theorem Chg.refl (lo hi : Nat) (w : World) : Chg lo hi w w := ⟨rfl, rfl, rfl, rfl, fun _ _ => rfl⟩
theorem Chg.set {lo hi : Nat} {a b : World} (h : Chg lo hi a b) {p : Addr} (h1 : lo ≤ p.block) (h2 : p.block < hi) (u : Value) : Chg lo hi a (b.setCell p u) :=
  ⟨h.os, h.tape, h.output, by rw [size_setCell]; exact h.size, fun k hk => (Below.heap_setCell _ _ _ _ (by omega)).trans (h.block k hk)⟩
theorem Chg.below {lo hi B : Nat} {a b : World} (h : Chg lo hi a b) (hB : B ≤ lo) : Below B a b := ⟨h.os, h.tape, h.output, by rw [h.size]; exact Nat.le_refl _, fun k hk => h.block k (by omega)⟩
theorem Chg.far {lo hi : Nat} {a b : World} (h : Chg lo hi a b) {g : Nat} (hg : g < lo ∨ hi ≤ g) (o : Nat) : b.cell? ⟨g, o, none⟩ = a.cell? ⟨g, o, none⟩ := World.cell?_of_block (w := a) (a := ⟨g, o, none⟩) (h.block g (by omega))
theorem OwnS.chg {lo hi lo' hi' : Nat} {a b : World} {T : TypeId} {A : Option Addr} {l : List (Int × Int)} (h : OwnS a lo' hi' T A l) (hc : Chg lo hi a b) (hd : hi' ≤ lo ∨ hi ≤ lo') : OwnS b lo' hi' T A l := fun hl =>
  let ⟨g, e, a1, a2, h3⟩ := h hl
  ⟨g, e, a1, a2, h3.same (hc.block g (by omega))⟩
theorem Pts.chg {lo hi lo' hi' : Nat} {a b : World} {A : Option Addr} {l : List (Int × Int)} (h : Pts a lo' hi' A l) (hc : Chg lo hi a b) (hd : hi' ≤ lo ∨ hi ≤ lo') : Pts b lo' hi' A l := fun hl =>
  let ⟨g, off, e, a1, a2, h3⟩ := h hl
  ⟨g, off, e, a1, a2, fun k hk => ⟨(hc.far (by omega) _).trans (h3 k hk).1, (hc.far (by omega) _).trans (h3 k hk).2⟩⟩

def markL (k0 : Int) (n : Nat) : List (Int × Int) := (List.range n).map fun (i : Nat) => (k0 + 2 * (i : Int), k0 + 2 * (i : Int) + 1)

theorem markL_length (k0 : Int) (n : Nat) : (markL k0 n).length = n := by simp [markL]
theorem gx_markL (k0 : Int) (n k : Nat) (h : k < n) : gx (markL k0 n) k = k0 + 2 * (k : Int) := by simp [gx, markL, List.getD_eq_getElem?_getD, h]
theorem gy_markL (k0 : Int) (n k : Nat) (h : k < n) : gy (markL k0 n) k = k0 + 2 * (k : Int) + 1 := by simp [gy, markL, List.getD_eq_getElem?_getD, h]

theorem markL_step (k0 : Int) (l : List (Int × Int)) (k : Nat) (h : k < l.length) : markL k0 (k + 1) ++ l.drop (k + 1) = (markL k0 k ++ l.drop k).set k (k0 + 2 * (k : Int), k0 + 2 * (k : Int) + 1) := by
  have e : (markL k0 k).length = k := markL_length k0 k
  rw [List.set_append_right _ _ (by omega), e, Nat.sub_self, List.drop_eq_getElem_cons h, List.set_cons_zero]
  unfold markL
  rw [List.range_succ, List.map_append, List.append_assoc]
  rfl

end Go.Proofs.Ytjccilpjaaiicaa

namespace Go.Proofs.Ytjccilpjaaiicaa
open Go.RowKit

def IsRoom (l : List (Int × Int)) (v : Value) (w : World) : Prop := ∃ A c, v = .agg #[.slice A l.length c] ∧ RPts w A l

theorem IsRoom_stable (l : List (Int × Int)) : Stable (IsRoom l) := by
  rintro v w w' ⟨A, c, rfl, h⟩ hx
  exact ⟨A, c, rfl, h.ext hx⟩

end Go.Proofs.Ytjccilpjaaiicaa

namespace Go.Proofs.Ytjccilpjaaiicaa
open Go.RowKit

theorem RPts.some_ {w : World} {A : Option Addr} {l : List (Int × Int)} (h : RPts w A l) (hl : 0 < l.length) : ∃ b off, A = some ⟨b, off, none⟩ :=
  let ⟨b, off, e, _⟩ := h hl
  ⟨b, off, e⟩

theorem RPts.cell {w : World} {b off : Nat} {l : List (Int × Int)} (h : RPts w (some ⟨b, off, none⟩) l) {k : Nat} (hk : k < l.length) :
    b < w.heap.size ∧ w.cell? ⟨b, off + k * 2, none⟩ = some (.int .i64 (gx l k)) ∧ w.cell? ⟨b, off + k * 2 + 1, none⟩ = some (.int .i64 (gy l k)) := by
  obtain ⟨b', off', e, h1, h2, h3⟩ := h.at_ hk
  injection e with e
  injection e with e1 e2 _
  subst e1 e2
  exact ⟨h1, h2, h3⟩

theorem inB_iff (x lo hi : Int) : inB x lo hi = true ↔ lo ≤ x ∧ x ≤ hi := by simp [inB]

def hasC (l : List (Int × Int)) (k : Int) : Bool := inB k 0 ((l.length : Int) - 1) && roomB l

theorem hasC_at {l : List (Int × Int)} {k : Int} (h : hasC l k = true) : ∃ n : Nat, k = n ∧ n < l.length ∧ roomB l = true := by
  unfold hasC at h
  rw [Bool.and_eq_true, inB_iff] at h
  exact ⟨k.toNat, by omega, by omega, h.2⟩

/-- the turn at corner k -/
def turnAt (l : List (Int × Int)) (k : Nat) : Int := turnW (gx l ((k + l.length - 1) % l.length)) (gy l ((k + l.length - 1) % l.length)) (gx l k) (gy l k) (gx l ((k + 1) % l.length)) (gy l ((k + 1) % l.length))
def reflB (l : List (Int × Int)) (k : Nat) : Bool := decide (turnAt l k < 0)

set_option maxRecDepth 100000 in
theorem reflex_any (A : Option Addr) (l : List (Int × Int)) (c k : Nat) (w : World) (hp : RPts w A l) (hn : l.length ≤ 1048576) (hk : k < l.length) :
    Calls Try.prog 46 #[.agg #[.slice A l.length c], .int .i64 k] w fun e w' => e = .returned (.bool (reflB l k)) ∧ Ext w w' := by
  obtain ⟨b, off, rfl⟩ := hp.some_ (by omega)
  have hm1 : (k + 1) % l.length < l.length := Nat.mod_lt _ (by omega)
  have hm2 : (k + l.length - 1) % l.length < l.length := Nat.mod_lt _ (by omega)
  obtain ⟨hz, hx0, hy0⟩ := hp.cell hk
  obtain ⟨_, hx1, hy1⟩ := hp.cell hm1
  obtain ⟨_, hx2, hy2⟩ := hp.cell hm2
  obtain ⟨q1, q2, q3, q4, q5⟩ := idx_facts ((k : Int) + 1) (k + 1) l.length (by omega) (by omega) (by omega)
  obtain ⟨r1, r2, r3, r4, r5⟩ := idx_facts ((k : Int) + l.length - 1) (k + l.length - 1) l.length (by omega) (by omega) (by omega)
  have s1 : IntKind.i64.wrap ((k : Int) + l.length) = (k : Int) + l.length := wrap_in _ (by omega) (by omega)
  have hne : l ≠ [] := fun e => by rw [e] at hk; simp at hk
  have hz2 : b < (w.alloc (.cells #[.slice (some ⟨b, off, none⟩) l.length c] 26)).heap.size := by simp; omega
  unfold reflB turnAt
  go_enter Try.func46, Try.ntmps46
  go_wp2
  refine wp_flow (by kernel_rfl) (by kernel_rfl) (fun u => ⟨#[_, _, _, _, u 25, _, _, _, _, u 0, u 1, u 2, u 3, u 4, u 5, u 6, u 7, u 8, u 9, u 10, u 11, u 12, u 13, u 14, u 15, u 16, u 17, u 18, u 19, u 20, u 21, u 22, u 23, u 24], _⟩) (fun i => List.getD [_, _, _, _, _, _, _, _, _, _, _, _, _, _, _, _, _, _, _, _, _, _, _, _, _, _] i undef) [is ?v1_0, is ?v1_1, is ?v1_2, is ?v1_3, is ?v1_4, is ?v1_5, is ?v1_6, is ?v1_7, is ?v1_8, is ?v1_9, is ?v1_10, is ?v1_11, is ?v1_12, is ?v1_13, is ?v1_14, is ?v1_15, is ?v1_16, is ?v1_17, is ?v1_18, is ?v1_19, is ?v1_20, is ?v1_21, is ?v1_22, is ?v1_23, is ?v1_24, is ?v1_25] (fun w' => w'.cell? ⟨w.heap.size, 0, none⟩ = some (.slice (some ⟨b, off, none⟩) l.length c) ∧ w'.cell? ⟨b, off + k * 2, none⟩ = some (.int .i64 (gx l (k))) ∧ w'.cell? ⟨b, off + k * 2 + 1, none⟩ = some (.int .i64 (gy l (k))) ∧ w'.cell? ⟨b, off + (k + 1) % l.length * 2, none⟩ = some (.int .i64 (gx l ((k + 1) % l.length))) ∧ w'.cell? ⟨b, off + (k + 1) % l.length * 2 + 1, none⟩ = some (.int .i64 (gy l ((k + 1) % l.length))) ∧ w'.cell? ⟨b, off + (k + l.length - 1) % l.length * 2, none⟩ = some (.int .i64 (gx l ((k + l.length - 1) % l.length))) ∧ w'.cell? ⟨b, off + (k + l.length - 1) % l.length * 2 + 1, none⟩ = some (.int .i64 (gy l ((k + l.length - 1) % l.length)))) _ rfl ?hC1 ?hs1 ?hV1 ?fin1
  case hC1 => (intro w' hx; and_intros <;> (first | (refine (Eq.trans (hx.cells _ _ ?_) ?_) <;> first | assumption | omega | (simp; done) | (simp; omega) | (simp [go_sem, World.cell?_alloc_past, *]; done)) | (have hz := hx.size; first | omega | (simp at hz; omega))))
  case hs1 =>
    repeat' (first
      | exact FSteps.nil
      | refine FSteps.cons ?_ ?_
      | (refine FStep.off_ _ _ _ rfl rfl ?_ (fun _ => rfl) ?_; (focus (intro u w hd; simp [vOf, is, Region.binds] at hd; simp [hd])); (intro w'; exact rfl); done)
      | ((first
          | refine FStep.plain rfl ?_
          | (refine FStep.on_ _ _ _ rfl rfl ?_ ?_; (focus (intro u w hd; simp [vOf, is, Region.binds] at hd; simp [hd]))))
         intro u w hW hC hd K hK
         (try simp [vOf, is, Region.binds] at hd)
         simp only [upd, Nat.reduceEqDiff, if_true, if_false] at hK
         (try simp only [hd] at hK)
         go_simp
         (first
           | (refine hK _ _ ?_ ?_; (first | exact rfl); (repeat (first | exact Ext.refl _ | assumption | apply Ext.alloc | apply Ext.drew | apply Ext.drewN | (refine Ext.trans ?_ (by assumption)))))
           | (go_at_call 34; refine (turn_any _ _ _ _ _ _ _).mono ?_; rintro e w1 ⟨rfl, hb⟩; (try go_simp); refine hK _ _ ?_ ?_; (first | exact rfl); (repeat (first | exact Ext.refl _ | assumption | apply Ext.alloc | apply Ext.drew | apply Ext.drewN | (refine Ext.trans ?_ (by assumption))))))))
  case hV1 => (simp only [List.forall_mem_cons]; simp [stable_is])
  case fin1 =>
    intro u w2 hW2 hC2 hd
    simp only [AllV, is] at hd
    simp only [hd]
    clear hd
    go_wp2
    go_ret
    exact ⟨rfl, by (repeat (first | exact Ext.refl _ | assumption | apply Ext.alloc | apply Ext.drew | apply Ext.drewN | (refine Ext.trans ?_ (by assumption))))⟩

/-- IsReflex, as both texts give it -/
def isReflV (l : List (Int × Int)) (k : Int) : Bool := hasC l k && reflB l k.toNat

end Go.Proofs.Ytjccilpjaaiicaa

