/-
  Contracts: the laws' own helpers for points and rooms: size, copy, compare, mark.
-/
import Derived.Test.YtkdhgngpapfkdaaDoorJ1
namespace Go.Proofs.YtkdhgngpapfkdaaDoor
open Go.RowKit

theorem info_ipt : (Tryd.prog.info? 27).map (fun i => (i.zero, i.size, i.bytes)) = some (some (.agg #[.int .i64 0, .int .i64 0]), 2, 16) := by kernel_rfl

theorem take_set_rep (l : List (Int × Int)) (k : Nat) (h : k < l.length) : l.take (k + 1) ++ List.replicate (l.length - (k + 1)) (0, 0) = (l.take k ++ List.replicate (l.length - k) (0, 0)).set k (gx l k, gy l k) := by
  have e : l.length - k = (l.length - (k + 1)) + 1 := by omega
  rw [List.set_append_right _ _ (by simp; omega), List.length_take, Nat.min_eq_left (by omega), Nat.sub_self, e, List.replicate_succ, List.set_cons_zero, List.take_succ_eq_append_getElem h]
  have hg : (gx l k, gy l k) = l[k] := by
    unfold gx gy
    rw [List.getD_eq_getElem?_getD, List.getElem?_eq_getElem h]
    rfl
  rw [hg, List.append_assoc]
  rfl

theorem szPointS_any (A : Option Addr) (l : List (Int × Int)) (c : Nat) (left : Int) (w : World) (hl : l.length ≤ maxLen) (h0 : 0 ≤ left) (h1 : left ≤ 1048576) :
    Calls Tryd.prog 49 #[.slice A l.length c, .int .i64 left] w fun e w' => e = .returned (.int .i64 (if left < l.length then -1 else left - l.length)) ∧ w = w' := by
  unfold maxLen at hl
  go_enter Tryd.func49, Tryd.ntmps49
  go_wp2
  all_goals (go_ret; refine ⟨ret_int ?_, rfl⟩; (try split) <;> (try rfl) <;> omega)

theorem toPoint_eq (x y : Int) (w : World) :
    Calls Tryd.prog 13 #[.agg #[.int .i64 x, .int .i64 y]] w fun e w' => e = .returned (.agg #[.int .i64 x, .int .i64 y]) ∧ w' = ((w.alloc (.cells #[.int .i64 x, .int .i64 y] 25)).alloc (.cells #[.int .i64 x, .int .i64 y] 27)).alloc (.cells #[.int .i64 x, .int .i64 y] 27) := by
  go_enter Tryd.func13, Tryd.ntmps13
  go_wp2
  exact bodyPost_ret (v := .agg #[.int .i64 x, .int .i64 y]) (by simp [results, Tryd.results13, go_sem]) rfl ⟨rfl, rfl⟩

theorem toPointS_any (A : Option Addr) (l : List (Int × Int)) (c : Nat) (w : World) (hp : RPts w A l) (hn : l.length ≤ 1048576) :
    Calls Tryd.prog 51 #[.slice A l.length c] w fun e w' => ∃ A', e = .returned (.slice A' l.length l.length) ∧ OwnS w' w.heap.size w'.heap.size 27 A' l ∧ Ext w w' := by
  obtain ⟨i0, hi0, hz0, hz1, hz2⟩ := info_parts info_ipt
  have hmk := fun W => run_makeRow (P := Tryd.prog) 47 27 i0 _ Tryd.underlying47 hi0 hz0 .i64 .i64 l.length l.length (Nat.le_refl _) (by rw [hz2]; omega) (by omega) W
  rw [hz1] at hmk
  simp only [Value.cells] at hmk
  go_enter Tryd.func51, Tryd.ntmps51
  go_wp2
  have hg0 := ownP_made w 27 l.length
  go_loopw [4] (fun i wr => ∃ k : Nat, k ≤ l.length ∧ i = .int .i64 k ∧ Ext w wr ∧ OwnP wr w.heap.size 27 (l.take k ++ List.replicate (l.length - k) (0, 0))) (fun i _ => l.length - (intOf i).toNat)
  case atStart => exact ⟨0, Nat.zero_le _, rfl, (Ext.refl w).alloc _, by simpa using hg0⟩
  case round =>
    obtain ⟨k, hk, rfl, hbl, hown⟩ := hrel
    clear hg0
    by_cases hlt : k < l.length
    · obtain ⟨b, off, rfl, _, hx, hy⟩ := (hp.ext hbl).at_ hlt
      have hlen : k < (l.take k ++ List.replicate (l.length - k) (0, 0)).length := by simp; omega
      go_wp2_with (go_at_call 13; refine (toPoint_any _ _ _).mono ?_; rintro e w1 ⟨rfl, hb⟩; have c1 := (hown.ext hb).cellx hlen; have c2 := (hown.ext hb).celly hlen; have c3 := (hown.ext hb).frozen (k * 2); have c4 := (hown.ext hb).frozen (k * 2 + 1))
      go_roundw
      case rel => exact ⟨k + 1, by omega, by go_num, ((hbl.trans hb).setCell (by simp) _).setCell (by simp) _, by rw [take_set_rep l k hlt]; exact (hown.ext hb).setXY hlen _ _⟩
      case measure => simp [intOf]; omega
    · have e : k = l.length := by omega
      have E := hide e
      clear e
      go_wp2
      go_ret
      refine ⟨_, rfl, fun _ => ⟨_, rfl, Nat.le_refl _, hown.lt, ?_⟩, hbl⟩
      rw [E.out] at hown
      simpa using hown

theorem szRoom_any (A : Option Addr) (l : List (Int × Int)) (c : Nat) (w : World) (hl : l.length ≤ maxLen) :
    Calls Tryd.prog 25 #[.agg #[.slice A l.length c], .int .i64 1048576] w fun e w' => e = .returned (.int .i64 (if (1048576 : Int) < l.length then -1 else 1048576 - l.length)) ∧ Ext w w' := by
  by_cases h : (1048576 : Int) < l.length
  · rw [if_pos h]
    go_enter Tryd.func25, Tryd.ntmps25
    go_wp2_with (go_at_call 49; refine (szPointS_any _ _ _ _ _ hl (by omega) (by omega)).mono ?_; rw [if_pos h]; rintro e w1 ⟨rfl, rfl⟩)
    go_ret
    exact ⟨rfl, by (repeat (first | exact Ext.refl _ | assumption | apply Ext.alloc | apply Ext.drew | apply Ext.drewN | (refine Ext.trans ?_ (by assumption))))⟩
  · rw [if_neg h]
    go_enter Tryd.func25, Tryd.ntmps25
    go_wp2_with (go_at_call 49; refine (szPointS_any _ _ _ _ _ hl (by omega) (by omega)).mono ?_; rw [if_neg h]; rintro e w1 ⟨rfl, rfl⟩)
    go_ret
    exact ⟨rfl, by (repeat (first | exact Ext.refl _ | assumption | apply Ext.alloc | apply Ext.drew | apply Ext.drewN | (refine Ext.trans ?_ (by assumption))))⟩

theorem szRoomL_any (A : Option Addr) (l : List (Int × Int)) (c : Nat) (left : Int) (w : World) (hl : l.length ≤ maxLen) (h0 : 0 ≤ left) (h1 : left ≤ 1048576) :
    Calls Tryd.prog 25 #[.agg #[.slice A l.length c], .int .i64 left] w fun e w' => e = .returned (.int .i64 (if left < l.length then -1 else left - l.length)) ∧ Ext w w' := by
  by_cases h : left < l.length
  · rw [if_pos h]
    go_enter Tryd.func25, Tryd.ntmps25
    go_wp2_with (go_at_call 49; refine (szPointS_any _ _ _ _ _ hl (by omega) (by omega)).mono ?_; rw [if_pos h]; rintro e w1 ⟨rfl, rfl⟩)
    go_ret
    exact ⟨rfl, by (repeat (first | exact Ext.refl _ | assumption | apply Ext.alloc | apply Ext.drew | apply Ext.drewN | (refine Ext.trans ?_ (by assumption))))⟩
  · rw [if_neg h]
    go_enter Tryd.func25, Tryd.ntmps25
    go_wp2_with (go_at_call 49; refine (szPointS_any _ _ _ _ _ hl (by omega) (by omega)).mono ?_; rw [if_neg h]; rintro e w1 ⟨rfl, rfl⟩)
    go_ret
    exact ⟨rfl, by (repeat (first | exact Ext.refl _ | assumption | apply Ext.alloc | apply Ext.drew | apply Ext.drewN | (refine Ext.trans ?_ (by assumption))))⟩

theorem toRoom_any (A : Option Addr) (l : List (Int × Int)) (c : Nat) (w : World) (hp : RPts w A l) (hn : l.length ≤ 1048576) :
    Calls Tryd.prog 27 #[.agg #[.slice A l.length c]] w fun e w' => ∃ A', e = .returned (.agg #[.slice A' l.length l.length]) ∧ OwnS w' w.heap.size w'.heap.size 27 A' l ∧ Ext w w' := by
  have HB : Hid (∀ w', Ext (((w.alloc (.cells #[.slice A l.length c] 44)).alloc (.cells #[.slice none 0 0] 49)).alloc (.cells #[.slice none 0 0] 49)) w' → w'.cell? ⟨w.heap.size + 1 + 1, 0, none⟩ = some (.slice none 0 0) ∧ w'.frozen? ⟨w.heap.size + 1 + 1, 0, none⟩ = false ∧ w'.cell? ⟨w.heap.size + 1, 0, none⟩ = some (.slice none 0 0) ∧ w'.frozen? ⟨w.heap.size + 1, 0, none⟩ = false) := fun w' hx => by
    refine ⟨?_, ?_, ?_, ?_⟩
    · rw [hx.cells _ _ (by simp)]; simp [go_sem]
    · rw [hx.frozens _ _ (by simp)]; simp [go_sem]
    · rw [hx.cells _ _ (by simp)]; simp [go_sem]
    · rw [hx.frozens _ _ (by simp)]; simp [go_sem]
  go_enter Tryd.func27, Tryd.ntmps27
  go_wp2_with (go_at_call 51; refine (toPointS_any _ _ _ _ (hp.ext (by (repeat (first | exact Ext.refl _ | assumption | apply Ext.alloc | apply Ext.drew | apply Ext.drewN | (refine Ext.trans ?_ (by assumption)))))) hn).mono ?_; rintro e w1 ⟨A', rfl, ho, hb⟩; have hcc := HB.out w1 (by (repeat (first | exact Ext.refl _ | assumption | apply Ext.alloc | apply Ext.drew | apply Ext.drewN | (refine Ext.trans ?_ (by assumption))))); have ho' : OwnS w1 (w.heap.size + 3) w1.heap.size 27 A' l := ho.more (by simp) (Nat.le_refl _))
  refine bodyPost_ret (v := .agg #[.slice A' l.length l.length]) (by simp [results, Tryd.results27, go_sem, hcc]) rfl ⟨A', rfl, ?_, ?_⟩
  · rw [size_setCell, size_setCell]
    exact ((ho'.set_below (by simp; try omega) _).set_below (by simp; try omega) _).more (by omega) (Nat.le_refl _)
  · have hx : Ext w w1 := by (repeat (first | exact Ext.refl _ | assumption | apply Ext.alloc | apply Ext.drew | apply Ext.drewN | (refine Ext.trans ?_ (by assumption))))
    exact (hx.setCell (by simp; try omega) _).setCell (by simp; try omega) _

def samePt (a b c d : Int) : Bool := a == c && b == d

theorem eqPoint_any (a b c d : Int) (w : World) :
    Calls Tryd.prog 73 #[.agg #[.int .i64 a, .int .i64 b], .agg #[.int .i64 c, .int .i64 d]] w fun e w' => e = .returned (.bool (samePt a b c d)) ∧ Ext w w' := by
  unfold samePt
  go_enter Tryd.func73, Tryd.ntmps73
  go_wp2
  all_goals (go_ret; exact ⟨ret_bool (by first | (simp [*]; done) | simp_all), by (repeat (first | exact Ext.refl _ | assumption | apply Ext.alloc | apply Ext.drew | apply Ext.drewN | (refine Ext.trans ?_ (by assumption))))⟩)

def eqPts (a b : List (Int × Int)) : Bool := decide (a = b)

theorem gxy_ext (a b : List (Int × Int)) (hl : a.length = b.length) (h : ∀ k, k < a.length → gx a k = gx b k ∧ gy a k = gy b k) : a = b := by
  refine List.ext_getElem hl fun k h1 h2 => ?_
  have := h k h1
  unfold gx gy at this
  simp only [List.getD_eq_getElem?_getD, List.getElem?_eq_getElem h1, List.getElem?_eq_getElem h2, Option.getD_some] at this
  exact Prod.ext this.1 this.2

set_option maxRecDepth 100000 in
theorem eqPointS_same (A B : Option Addr) (l : List (Int × Int)) (c d : Nat) (w : World) (ha : RPts w A l) (hb : RPts w B l) (hn : l.length ≤ 1048576) :
    Calls Tryd.prog 53 #[.slice A l.length c, .slice B l.length d] w fun e w' => e = .returned (.bool true) ∧ Ext w w' := by
  go_enter Tryd.func53, Tryd.ntmps53
  go_wp2
  go_loopw [5] (fun i wr => ∃ k : Nat, k ≤ l.length ∧ i = .int .i64 k ∧ Ext w wr) (fun i _ => l.length - (intOf i).toNat)
  case atStart => exact ⟨0, Nat.zero_le _, rfl, Ext.refl w⟩
  case round =>
    obtain ⟨k, hk, rfl, hbl⟩ := hrel
    by_cases hlt : k < l.length
    · obtain ⟨b, off, rfl, hz1, hx, hy⟩ := (ha.ext hbl).at_ hlt
      obtain ⟨b', off', rfl, hz2, hx', hy'⟩ := (hb.ext hbl).at_ hlt
      have hs : samePt (gx l k) (gy l k) (gx l k) (gy l k) = true := by simp [samePt]
      go_wp2
      refine wp_flow (by kernel_rfl) (by kernel_rfl) (fun u => ⟨#[_, _, _, _, _, _, _, _, _, _, _, _, _, _, _, _, _, u 0, u 1, u 2, u 3, u 4, u 5, u 6, u 7, u 8, u 9], _⟩) (fun i => List.getD [_, _, _, _, _, _, _, _, _, _] i undef) [is ?v1_0, is ?v1_1, is ?v1_2, is ?v1_3, is ?v1_4, is ?v1_5, is ?v1_6, is ?v1_7, is ?v1_8, is ?v1_9] (fun w' => w'.cell? ⟨b, off + k * 2, none⟩ = some (.int .i64 (gx l k)) ∧ w'.cell? ⟨b, off + k * 2 + 1, none⟩ = some (.int .i64 (gy l k)) ∧ w'.cell? ⟨b', off' + k * 2, none⟩ = some (.int .i64 (gx l k)) ∧ w'.cell? ⟨b', off' + k * 2 + 1, none⟩ = some (.int .i64 (gy l k))) _ rfl ?hC1 ?hs1 ?hV1 ?fin1
      case hC1 => (intro w' hx; and_intros <;> (first | (refine (Eq.trans (hx.cells _ _ ?_) ?_) <;> first | assumption | omega | (simp; done) | (simp; omega) | (simp [go_sem, World.cell?_alloc_past, *]; done)) | (have hz := hx.size; first | omega | (simp at hz; omega))))
      case hs1 =>
        repeat' (first
          | exact FSteps.nil
          | refine FSteps.cons ?_ ?_
          | (refine FStep.off_ _ _ _ rfl rfl ?_ (fun _ => rfl) ?_; (focus (intro u w hd; simp [vOf, is, Region.binds] at hd; simp [hd])); (intro w'; exact rfl); done)
          | ((first
              | refine FStep.plain rfl ?_
              | (refine FStep.on_ _ _ _ rfl rfl ?_ ?_; (focus (intro u w hd; simp [vOf, is, Region.binds] at hd; simp [hd]))))
             intro u w hW hC hd K hK
             (try simp [vOf, is, Region.binds] at hd)
             simp only [upd, Nat.reduceEqDiff, if_true, if_false] at hK
             (try simp only [hd] at hK)
             go_simp
             (first
               | (refine hK _ _ ?_ ?_; (first | exact rfl); (repeat (first | exact Ext.refl _ | assumption | apply Ext.alloc | apply Ext.drew | apply Ext.drewN | (refine Ext.trans ?_ (by assumption)))))
               | (go_at_call 73; refine (eqPoint_any _ _ _ _ _).mono ?_; rintro e w1 ⟨rfl, hb⟩; (try go_simp); refine hK _ _ ?_ ?_; (first | exact rfl); (repeat (first | exact Ext.refl _ | assumption | apply Ext.alloc | apply Ext.drew | apply Ext.drewN | (refine Ext.trans ?_ (by assumption))))))))
      case hV1 => (simp only [List.forall_mem_cons]; simp [stable_is])
      case fin1 =>
        intro u w2 hW2 hC2 hd
        simp only [AllV, is] at hd
        simp only [hd]
        clear hd
        clear hC2 hx hy hx' hy'
        go_wp2
        go_roundw
        case rel => exact ⟨k + 1, by omega, by go_num, by (repeat (first | exact Ext.refl _ | assumption | apply Ext.alloc | apply Ext.drew | apply Ext.drewN | (refine Ext.trans ?_ (by assumption))))⟩
        case measure => simp [intOf]; omega
    · go_wp2
      go_ret
      exact ⟨rfl, hbl⟩

end Go.Proofs.YtkdhgngpapfkdaaDoor
