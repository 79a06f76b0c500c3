/-
  Contract: rooms that are apart (the program's AreApart).
-/
import Derived.Test.YtanagdlikoinaaaInside
namespace Go.Proofs.Ytanagdlikoinaaa
open Go.RowKit

/-- wall i of a crosses wall k of b -/
def xE (a b : List (Int × Int)) (i k : Nat) : Bool := crossB (gx a i) (gy a i) (gx a (nx a i)) (gy a (nx a i)) (gx b k) (gy b k) (gx b (nx b k)) (gy b (nx b k))
def rowX (a b : List (Int × Int)) (i n : Nat) : Bool := (List.range n).all fun k => !xE a b i k
def allX (a b : List (Int × Int)) (n : Nat) : Bool := (List.range n).all fun i => rowX a b i b.length
theorem rowX_succ (a b : List (Int × Int)) (i n : Nat) : rowX a b i (n + 1) = (rowX a b i n && !xE a b i n) := all_range_succ _ _
theorem allX_succ (a b : List (Int × Int)) (n : Nat) : allX a b (n + 1) = (allX a b n && rowX a b n b.length) := all_range_succ _ _
/-- AreApart, as both texts give it -/
def apV (a b : List (Int × Int)) : Bool := (roomB a && roomB b) && (allX a b a.length && (!insB b (floorL a) && !insB a (floorL b)))
theorem apV_cross {a b : List (Int × Int)} {i k : Nat} (hi : i < a.length) (hk : k < b.length) (h : xE a b i k = true) : apV a b = false := by
  have h1 : rowX a b i b.length = false := all_false hk (by simp [h])
  have h2 : allX a b a.length = false := all_false hi h1
  unfold apV
  rw [h2]
  simp

set_option maxRecDepth 100000 in
set_option maxHeartbeats 6400000 in
theorem AreApart_any (A B : Option Addr) (l r : List (Int × Int)) (c d : Nat) (w : World) (hp : RPts w A l) (hq : RPts w B r) (hn : l.length ≤ 1048576) (hm : r.length ≤ 1048576) :
    Calls Try.prog 26 #[.agg #[.slice A l.length c], .agg #[.slice B r.length d]] w fun e w' => e = .returned (.bool (apV l r)) ∧ Ext w w' := by
  have HB : Hid (∀ w', Ext ((w.alloc (.cells #[.slice A l.length c] 26)).alloc (.cells #[.slice B r.length d] 26)) w' → w'.cell? ⟨w.heap.size, 0, none⟩ = some (.slice A l.length c) ∧ w.heap.size < w'.heap.size ∧ w'.cell? ⟨w.heap.size + 1, 0, none⟩ = some (.slice B r.length d) ∧ w.heap.size + 1 < w'.heap.size) := fun w' hx => by
    and_intros <;> (first | (have hz := hx.size; simp at hz; omega) | ((first | rw [hx.cells _ _ (by first | (simp; done) | (simp; omega))] | rw [hx.frozens _ _ (by first | (simp; done) | (simp; omega))]); (first | (simp [go_sem]; done) | (simp [go_sem, World.cell?_alloc_past]; done) | (simp [go_sem, World.frozen?]; done))))
  cases r1 : roomB l
  · have HV := hide (show apV l r = false by unfold apV; rw [r1]; rfl)
    go_enter Try.func26, Try.ntmps26
    go_wp2_with (go_at_call 29; refine (RoomOk_any _ _ _ _ (hp.ext (by (repeat (first | exact Ext.refl _ | assumption | apply Ext.alloc | apply Ext.drew | apply Ext.drewN | (refine Ext.trans ?_ (by assumption)))))) hn).mono ?_; rw [r1]; rintro e w1 ⟨rfl, hb1⟩)
    go_ret
    exact ⟨ret_bool (by rw [HV.out]), by (repeat (first | exact Ext.refl _ | assumption | apply Ext.alloc | apply Ext.drew | apply Ext.drewN | (refine Ext.trans ?_ (by assumption))))⟩
  · cases r2 : roomB r
    · have HV := hide (show apV l r = false by unfold apV; rw [r1, r2]; rfl)
      go_enter Try.func26, Try.ntmps26
      go_wp2_with fail
      refine (RoomOk_any _ _ _ _ (hp.ext (by (repeat (first | exact Ext.refl _ | assumption | apply Ext.alloc | apply Ext.drew | apply Ext.drewN | (refine Ext.trans ?_ (by assumption)))))) hn).mono ?_
      rw [r1]
      rintro e w1 ⟨rfl, hb1⟩
      have f1 := HB.out w1 (by (repeat (first | exact Ext.refl _ | assumption | apply Ext.alloc | apply Ext.drew | apply Ext.drewN | (refine Ext.trans ?_ (by assumption)))))
      go_wp2_with fail
      refine (RoomOk_any _ _ _ _ (hq.ext (by (repeat (first | exact Ext.refl _ | assumption | apply Ext.alloc | apply Ext.drew | apply Ext.drewN | (refine Ext.trans ?_ (by assumption)))))) hm).mono ?_
      rw [r2]
      rintro e w2 ⟨rfl, hb2⟩
      go_wp2
      go_ret
      exact ⟨ret_bool (by rw [HV.out]), by (repeat (first | exact Ext.refl _ | assumption | apply Ext.alloc | apply Ext.drew | apply Ext.drewN | (refine Ext.trans ?_ (by assumption))))⟩
    · have R1 := hide r1
      have R2 := hide r2
      have HV := hide (show apV l r = (allX l r l.length && (!insB r (floorL l) && !insB l (floorL r))) by unfold apV; rw [r1, r2]; rfl)
      go_enter Try.func26, Try.ntmps26
      go_wp2_with fail
      refine (RoomOk_any _ _ _ _ (hp.ext (by (repeat (first | exact Ext.refl _ | assumption | apply Ext.alloc | apply Ext.drew | apply Ext.drewN | (refine Ext.trans ?_ (by assumption)))))) hn).mono ?_
      rw [r1]
      rintro e w1 ⟨rfl, hb1⟩
      have f1 := HB.out w1 (by (repeat (first | exact Ext.refl _ | assumption | apply Ext.alloc | apply Ext.drew | apply Ext.drewN | (refine Ext.trans ?_ (by assumption)))))
      go_wp2_with fail
      refine (RoomOk_any _ _ _ _ (hq.ext (by (repeat (first | exact Ext.refl _ | assumption | apply Ext.alloc | apply Ext.drew | apply Ext.drewN | (refine Ext.trans ?_ (by assumption)))))) hm).mono ?_
      rw [r2]
      rintro e w2 ⟨rfl, hb2⟩
      have f2 := HB.out w2 (by (repeat (first | exact Ext.refl _ | assumption | apply Ext.alloc | apply Ext.drew | apply Ext.drewN | (refine Ext.trans ?_ (by assumption)))))
      clear f1 r1 r2
      go_wp2_with (go_at_call 33; refine (wallsOf_any _ _ _ _ (hp.ext (by (repeat (first | exact Ext.refl _ | assumption | apply Ext.alloc | apply Ext.drew | apply Ext.drewN | (refine Ext.trans ?_ (by assumption)))))) hn).mono ?_; rintro e wa ⟨A', c', rfl, hrw, hx⟩)
      clear f2
      go_loopw [21] (fun iv wr => ∃ i : Nat, i ≤ l.length ∧ iv = .int .i64 i ∧ Ext wa wr ∧ Hid (allX l r i = true)) (fun iv _ => l.length - (intOf iv).toNat)
      case atStart => exact ⟨0, Nat.zero_le _, rfl, Ext.refl _, hide rfl⟩
      case round =>
        obtain ⟨i, hi, rfl, hbi, HX⟩ := hrel
        obtain ⟨wi, rfl⟩ : ∃ wi : World, wi = wr := ⟨_, rfl⟩
        have fb := HB.out wi (by (repeat (first | exact Ext.refl _ | assumption | apply Ext.alloc | apply Ext.drew | apply Ext.drewN | (refine Ext.trans ?_ (by assumption)))))
        by_cases hli : i < l.length
        · have q2 : (i : Int) < (l.length : Int) := by omega
          obtain ⟨g, rfl, hg, c1, c2, c3, c4⟩ := (hrw.ext hbi) i hli
          have HQ : Hid (∀ w', Ext (wi.alloc (.cells #[.int .i64 (gx l i), .int .i64 (gy l i), .int .i64 (gx l (nx l i)), .int .i64 (gy l (nx l i))] 51)) w' → w'.cell? ⟨wi.heap.size, 0, none⟩ = some (.int .i64 (gx l i)) ∧ w'.cell? ⟨wi.heap.size, 1, none⟩ = some (.int .i64 (gy l i)) ∧ w'.cell? ⟨wi.heap.size, 2, none⟩ = some (.int .i64 (gx l (nx l i))) ∧ w'.cell? ⟨wi.heap.size, 3, none⟩ = some (.int .i64 (gy l (nx l i))) ∧ wi.heap.size < w'.heap.size) := fun w' hx => by
            and_intros <;> (first | (have hz := hx.size; simp at hz; omega) | ((first | rw [hx.cells _ _ (by first | (simp; done) | (simp; omega))] | rw [hx.frozens _ _ (by first | (simp; done) | (simp; omega))]); (first | (simp [go_sem]; done) | (simp [go_sem, World.cell?_alloc_past]; done) | (simp [go_sem, World.frozen?]; done))))
          have fb' := HB.out (wi.alloc (.cells #[.int .i64 (gx l i), .int .i64 (gy l i), .int .i64 (gx l (nx l i)), .int .i64 (gy l (nx l i))] 51)) (by (repeat (first | exact Ext.refl _ | assumption | apply Ext.alloc | apply Ext.drew | apply Ext.drewN | (refine Ext.trans ?_ (by assumption)))))
          go_wp2_with (go_at_call 33; refine (wallsOf_any _ _ _ _ (hq.ext (by (repeat (first | exact Ext.refl _ | assumption | apply Ext.alloc | apply Ext.drew | apply Ext.drewN | (refine Ext.trans ?_ (by assumption)))))) hm).mono ?_; rintro e wb ⟨B', d', rfl, hrv, hxb⟩)
          clear c1 c2 c3 c4 fb fb'
          go_loopw [29] (fun kv wr => ∃ k : Nat, k ≤ r.length ∧ kv = .int .i64 k ∧ Ext wb wr ∧ Hid (rowX l r i k = true)) (fun kv _ => r.length - (intOf kv).toNat)
          case atStart => exact ⟨0, Nat.zero_le _, rfl, Ext.refl _, hide rfl⟩
          case round =>
            obtain ⟨k, hk, rfl, hbk, HK⟩ := hrel
            obtain ⟨wk, rfl⟩ : ∃ wk : World, wk = wr := ⟨_, rfl⟩
            have fq := HQ.out wk (by (repeat (first | exact Ext.refl _ | assumption | apply Ext.alloc | apply Ext.drew | apply Ext.drewN | (refine Ext.trans ?_ (by assumption)))))
            by_cases hlk : k < r.length
            · have q3 : (k : Int) < (r.length : Int) := by omega
              obtain ⟨g2, rfl, hg2, d1, d2, d3, d4⟩ := (hrv.ext hbk) k hlk
              cases ho : xE l r i k
              · have HO := hide (show rowX l r i (k + 1) = true by rw [rowX_succ, HK.out, ho]; rfl)
                unfold xE at ho
                go_wp2_with (go_at_call 42; refine (crosses_any _ _ _ _ _ _ _ _ _).mono ?_; rw [ho]; rintro e w3 ⟨rfl, hb3⟩)
                go_roundw
                case rel => exact ⟨k + 1, by omega, by go_num, by (repeat (first | exact Ext.refl _ | assumption | apply Ext.alloc | apply Ext.drew | apply Ext.drewN | (refine Ext.trans ?_ (by assumption)))), HO⟩
                case measure => simp [intOf]; omega
              · have HW := hide (apV_cross hli hlk ho)
                unfold xE at ho
                go_wp2_with (go_at_call 42; refine (crosses_any _ _ _ _ _ _ _ _ _).mono ?_; rw [ho]; rintro e w3 ⟨rfl, hb3⟩)
                go_ret
                exact ⟨ret_bool (by rw [HW.out]), by (repeat (first | exact Ext.refl _ | assumption | apply Ext.alloc | apply Ext.drew | apply Ext.drewN | (refine Ext.trans ?_ (by assumption))))⟩
            · have q3 : ¬ (k : Int) < (r.length : Int) := by omega
              have HO := hide (show allX l r (i + 1) = true by have h := HK.out; rw [show k = r.length by omega] at h; rw [allX_succ, HX.out, h]; rfl)
              go_wp2
              go_roundw
              case rel => exact ⟨i + 1, by omega, by go_num, by (repeat (first | exact Ext.refl _ | assumption | apply Ext.alloc | apply Ext.drew | apply Ext.drewN | (refine Ext.trans ?_ (by assumption)))), HO⟩
              case measure => simp [intOf]; omega
        · have q2 : ¬ (i : Int) < (l.length : Int) := by omega
          have HO := hide (show allX l r l.length = true by rw [show l.length = i by omega]; exact HX.out)
          clear HX hrw
          cases hin : insB r (floorL l)
          · have HI := hide hin
            go_wp2_with fail
            refine (anyInside_any _ _ _ _ _ _ _ (hp.ext (by (repeat (first | exact Ext.refl _ | assumption | apply Ext.alloc | apply Ext.drew | apply Ext.drewN | (refine Ext.trans ?_ (by assumption)))))) (hq.ext (by (repeat (first | exact Ext.refl _ | assumption | apply Ext.alloc | apply Ext.drew | apply Ext.drewN | (refine Ext.trans ?_ (by assumption)))))) R1.out hm).mono ?_
            rw [hin]
            rintro e w3 ⟨rfl, hb3⟩
            have f3 := HB.out w3 (by (repeat (first | exact Ext.refl _ | assumption | apply Ext.alloc | apply Ext.drew | apply Ext.drewN | (refine Ext.trans ?_ (by assumption)))))
            clear fb
            go_wp2_with fail
            refine (anyInside_any _ _ _ _ _ _ _ (hq.ext (by (repeat (first | exact Ext.refl _ | assumption | apply Ext.alloc | apply Ext.drew | apply Ext.drewN | (refine Ext.trans ?_ (by assumption)))))) (hp.ext (by (repeat (first | exact Ext.refl _ | assumption | apply Ext.alloc | apply Ext.drew | apply Ext.drewN | (refine Ext.trans ?_ (by assumption)))))) R2.out hn).mono ?_
            rintro e w4 ⟨rfl, hb4⟩
            go_wp2
            go_ret
            exact ⟨ret_bool (by rw [HV.out, HO.out, HI.out]; rfl), by (repeat (first | exact Ext.refl _ | assumption | apply Ext.alloc | apply Ext.drew | apply Ext.drewN | (refine Ext.trans ?_ (by assumption))))⟩
          · have HI := hide hin
            go_wp2_with fail
            refine (anyInside_any _ _ _ _ _ _ _ (hp.ext (by (repeat (first | exact Ext.refl _ | assumption | apply Ext.alloc | apply Ext.drew | apply Ext.drewN | (refine Ext.trans ?_ (by assumption)))))) (hq.ext (by (repeat (first | exact Ext.refl _ | assumption | apply Ext.alloc | apply Ext.drew | apply Ext.drewN | (refine Ext.trans ?_ (by assumption)))))) R1.out hm).mono ?_
            rw [hin]
            rintro e w3 ⟨rfl, hb3⟩
            go_wp2
            go_ret
            exact ⟨ret_bool (by rw [HV.out, HO.out, HI.out]; rfl), by (repeat (first | exact Ext.refl _ | assumption | apply Ext.alloc | apply Ext.drew | apply Ext.drewN | (refine Ext.trans ?_ (by assumption))))⟩

end Go.Proofs.Ytanagdlikoinaaa
