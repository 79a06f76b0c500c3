/-
  Contract: the reference's DiagonalsOf.
-/
import Derived.Test.YtmccffmkfdcmmaaDgOf
import Derived.Test.YtmccffmkfdcmmaaSDiag
namespace Go.Proofs.Ytmccffmkfdcmmaa
open Go.RowKit


set_option maxRecDepth 100000 in
set_option maxHeartbeats 3200000 in
theorem sDiagonalsOf_any (A : Option Addr) (l : List (Int × Int)) (c : Nat) (w : World) (hp : RPts w A l) (hn : l.length ≤ 1048576) :
    Calls Try.prog 21 #[.agg #[.slice A l.length c]] w (RetR2 46 (dgV l) w) := by
  obtain ⟨i0, hI, hZ, hS, hY⟩ := info_parts info_ints
  have HB : Hid (∀ w', Ext (w.alloc (.cells #[.slice A l.length c] 29)) w' → w'.cell? ⟨w.heap.size, 0, none⟩ = some (.slice A l.length c) ∧ w.heap.size < w'.heap.size) := fun w' hx => by
    and_intros <;> (first | (have hz := hx.size; simp at hz; omega) | ((first | rw [hx.cells _ _ (by first | (simp; done) | (simp; omega))] | rw [hx.frozens _ _ (by first | (simp; done) | (simp; omega))]); (first | (simp [go_sem]; done) | (simp [go_sem, World.cell?_alloc_past]; done) | (simp [go_sem, World.frozen?]; done))))
  have hst0 : DSt ((w.alloc (.cells #[.slice A l.length c] 29)).alloc (.cells #[] 46)) (w.heap.size + 1) (.slice (some ⟨(w.alloc (.cells #[.slice A l.length c] 29)).heap.size, 0, none⟩) 0 0) (dgTo l 0) := DSt.new (w.alloc (.cells #[.slice A l.length c] 29)) _ (by simp)
  have esz : (w.alloc (.cells #[.slice A l.length c] 29)).heap.size = w.heap.size + 1 := by simp
  rw [esz] at hst0
  clear esz
  cases hr : roomB l
  · have HV := hide (show dgV l = [] by simp [dgV, hr])
    go_enter Try.func21, Try.ntmps21
    go_wp2
    go_loopw [3, 4] (fun out ix wr => ix = .int .i64 0 ∧ out = .slice (some ⟨w.heap.size + 1, 0, none⟩) 0 0 ∧ Ext (w.alloc (.cells #[.slice A l.length c] 29)) wr) (fun _ ix _ => 0)
    case atStart => exact ⟨rfl, by first | rfl | (simp; done), by (repeat (first | exact Ext.refl _ | assumption | apply Ext.alloc | apply Ext.drew | apply Ext.drewN | (refine Ext.trans ?_ (by assumption))))⟩
    case round =>
      obtain ⟨rfl, rfl, hbl⟩ := hrel
      have hcb := HB.out wr hbl
      by_cases hz : 0 < l.length
      · have q2 : (0 : Int) < (l.length : Int) := by omega
        go_wp2_with (go_at_call 44; refine (sRoomOk_any _ _ _ _ (hp.ext (by (repeat (first | exact Ext.refl _ | assumption | apply Ext.alloc | apply Ext.drew | apply Ext.drewN | (refine Ext.trans ?_ (by assumption)))))) hn).mono ?_; rw [hr]; rintro e w1 ⟨rfl, hb1⟩)
        go_ret
        exact ⟨_, _, by rw [HV.out]; rfl, by rw [HV.out]; exact OwnR.nil, by (repeat (first | exact Ext.refl _ | assumption | apply Ext.alloc | apply Ext.drew | apply Ext.drewN | (refine Ext.trans ?_ (by assumption))))⟩
      · have q2 : ¬ (0 : Int) < (l.length : Int) := by omega
        go_wp2
        go_ret
        exact ⟨_, _, by rw [HV.out]; rfl, by rw [HV.out]; exact OwnR.nil, by (repeat (first | exact Ext.refl _ | assumption | apply Ext.alloc | apply Ext.drew | apply Ext.drewN | (refine Ext.trans ?_ (by assumption))))⟩
  · have HV := hide (show dgV l = dgTo l l.length by simp [dgV, hr])
    have h10 := (roomB_fine hr).1.2
    have HR := hide hr
    clear hr
    go_enter Try.func21, Try.ntmps21
    go_wp2
    go_loopw [3, 4] (fun out ix wr => ∃ (i : Nat) (o : Value), i ≤ l.length ∧ ix = .int .i64 i ∧ o = out ∧ Ext (w.alloc (.cells #[.slice A l.length c] 29)) wr ∧ DSt wr (w.heap.size + 1) o (dgTo l i)) (fun _ ix _ => l.length - (intOf ix).toNat)
    case atStart => exact ⟨0, _, Nat.zero_le _, rfl, rfl, by (repeat (first | exact Ext.refl _ | assumption | apply Ext.alloc | apply Ext.drew | apply Ext.drewN | (refine Ext.trans ?_ (by assumption)))), by first | exact hst0 | simpa using hst0⟩
    case round =>
      obtain ⟨i, o, hi, rfl, ho, hbl, hsto⟩ := hrel
      subst ho
      obtain ⟨wq, rfl⟩ : ∃ wq : World, wq = wr := ⟨_, rfl⟩
      clear hst0
      have hcb := HB.out wq hbl
      have hle1 := dgTo_bd h10 hi
      have hsq := hbl.size
      simp at hsq
      by_cases hil : i < l.length
      · have q2 : (i : Int) < (l.length : Int) := by omega
        go_wp2_with (go_at_call 44; refine (sRoomOk_any _ _ _ _ (hp.ext (by (repeat (first | exact Ext.refl _ | assumption | apply Ext.alloc | apply Ext.drew | apply Ext.drewN | (refine Ext.trans ?_ (by assumption)))))) hn).mono ?_; rw [HR.out]; rintro e wb ⟨rfl, hbb⟩; have hcc := HB.out wb (by (repeat (first | exact Ext.refl _ | assumption | apply Ext.alloc | apply Ext.drew | apply Ext.drewN | (refine Ext.trans ?_ (by assumption))))))
        have hstb := hsto.ext hbb
        have hxb : Ext (w.alloc (.cells #[.slice A l.length c] 29)) wb := by (repeat (first | exact Ext.refl _ | assumption | apply Ext.alloc | apply Ext.drew | apply Ext.drewN | (refine Ext.trans ?_ (by assumption))))
        clear hcb hsto
        go_loopw [3, 5] (fun out kx wr => ∃ (k : Nat) (o : Value), k ≤ l.length ∧ i < k ∧ kx = .int .i64 k ∧ o = out ∧ Ext (w.alloc (.cells #[.slice A l.length c] 29)) wr ∧ DSt wr (w.heap.size + 1) o (dgTo l i ++ dgRow l i k)) (fun _ kx _ => l.length - (intOf kx).toNat)
        case atStart => exact ⟨i + 1, _, by omega, by omega, by go_num, rfl, by (repeat (first | exact Ext.refl _ | assumption | apply Ext.alloc | apply Ext.drew | apply Ext.drewN | (refine Ext.trans ?_ (by assumption)))), by rw [dgRow_start, List.append_nil]; exact hstb⟩
        case round =>
          obtain ⟨k, o, hk, hik, rfl, ho, hbi, hst⟩ := hrel
          subst ho
          obtain ⟨wi, rfl⟩ : ∃ wi : World, wi = wr := ⟨_, rfl⟩
          have fbi := HB.out wi (by (repeat (first | exact Ext.refl _ | assumption | apply Ext.alloc | apply Ext.drew | apply Ext.drewN | (refine Ext.trans ?_ (by assumption)))))
          have hle2 := dgRow_le l i k
          have hsi := hbi.size
          simp at hsi
          by_cases hlt : k < l.length
          · have q3 : (k : Int) < (l.length : Int) := by omega
            cases hd : dgN l i k
            · have HS := hide (show dgRow l i (k + 1) = dgRow l i k by rw [dgRow_succ l hik, hd]; rfl)
              go_wp2_with (go_at_call 59; refine (sDiagonal_nat _ _ _ _ _ _ (hp.ext (by (repeat (first | exact Ext.refl _ | assumption | apply Ext.alloc | apply Ext.drew | apply Ext.drewN | (refine Ext.trans ?_ (by assumption)))))) HR.out hil hlt).mono ?_; rw [hd]; rintro e w1 ⟨rfl, hb1⟩)
              go_roundw
              case rel => exact ⟨k + 1, _, by omega, by omega, by go_num, rfl, by (repeat (first | exact Ext.refl _ | assumption | apply Ext.alloc | apply Ext.drew | apply Ext.drewN | (refine Ext.trans ?_ (by assumption)))), by rw [HS.out]; exact hst.ext (by (repeat (first | exact Ext.refl _ | assumption | apply Ext.alloc | apply Ext.drew | apply Ext.drewN | (refine Ext.trans ?_ (by assumption)))))⟩
              case measure => simp [intOf]; omega
            · have HS := hide (show dgRow l i (k + 1) = dgRow l i k ++ [((i : Int), (k : Int))] by rw [dgRow_succ l hik, hd]; rfl)
              obtain ⟨bs, hown, hin, hno⟩ := hst
              go_wp2_with (first | (go_at_call 59; refine (sDiagonal_nat _ _ _ _ _ _ (hp.ext (by (repeat (first | exact Ext.refl _ | assumption | apply Ext.alloc | apply Ext.drew | apply Ext.drewN | (refine Ext.trans ?_ (by assumption)))))) HR.out hil hlt).mono ?_; rw [hd]; rintro e w1 ⟨rfl, hb1⟩; have hsz1 := (show Ext wi w1 by (repeat (first | exact Ext.refl _ | assumption | apply Ext.alloc | apply Ext.drew | apply Ext.drewN | (refine Ext.trans ?_ (by assumption))))).size) | (at_builtin; refine wpList_app _ rfl (.tmp 32) (.tmp 36) _ rfl (w.heap.size + 1) 46 i0 _ 1 24 Try.underlying40 hI hZ hS hY rfl (by omega) _ (dgTo l i ++ dgRow l i k).length (rowV bs) (by rfl) (ownsRow_ext hown (by (repeat (first | exact Ext.refl _ | assumption | apply Ext.alloc | apply Ext.drew | apply Ext.drewN | (refine Ext.trans ?_ (by assumption)))))) ⟨w1.heap.size + 1, 0, none⟩ 1 1 [sl2 w1.heap.size] (by first | rfl | (simp; done)) rfl (news_row w1 i k) (by simp [Value.oneCell', sl2]) (by unfold maxLen; rw [List.length_append]; omega) (by rw [List.length_append]; omega) (by simp; omega) ?_; intro v' w3 hown3 hg3 hk3))
              have hx3 : Ext (w.alloc (.cells #[.slice A l.length c] 29)) w3 := ext_grown (show Ext (w.alloc (.cells #[.slice A l.length c] 29)) ((w1.alloc (.cells #[.int .i64 (i : Int), .int .i64 (k : Int)] 3)).alloc (.cells #[sl2 w1.heap.size] 46)) by (repeat (first | exact Ext.refl _ | assumption | apply Ext.alloc | apply Ext.drew | apply Ext.drewN | (refine Ext.trans ?_ (by assumption))))) hg3 (fun q hq => by have := (hown.lt q hq).1; simpa using this)
              have hst3 := DSt.snoc hown hin hno (show Ext wi w1 by (repeat (first | exact Ext.refl _ | assumption | apply Ext.alloc | apply Ext.drew | apply Ext.drewN | (refine Ext.trans ?_ (by assumption))))) (by omega) hown3 hg3 hk3
              clear hown hin hno hown3 hg3 hk3
              go_wp2
              go_roundw
              case rel => exact ⟨k + 1, _, by omega, by omega, by go_num, rfl, by (repeat (first | exact Ext.refl _ | assumption | apply Ext.alloc | apply Ext.drew | apply Ext.drewN | (refine Ext.trans ?_ (by assumption)))), by rw [HS.out, ← List.append_assoc]; exact hst3⟩
              case measure => simp [intOf]; omega
          · have e : k = l.length := by omega
            have q3 : ¬ (k : Int) < (l.length : Int) := by omega
            have E := hide e
            clear e
            go_wp2
            go_roundw
            case rel => exact ⟨i + 1, _, by omega, by go_num, rfl, by (repeat (first | exact Ext.refl _ | assumption | apply Ext.alloc | apply Ext.drew | apply Ext.drewN | (refine Ext.trans ?_ (by assumption)))), by rw [dgTo]; have h := hst; rw [E.out] at h; exact h⟩
            case measure => simp [intOf]; omega
      · have e : i = l.length := by omega
        have q2 : ¬ (i : Int) < (l.length : Int) := by omega
        obtain ⟨A', c', ho, hown⟩ := hsto.ret
        subst ho
        have E := hide e
        clear e
        go_wp2
        go_ret
        rw [E.out] at hown
        exact ⟨A', c', by rw [HV.out, E.out]; rfl, by rw [HV.out]; exact hown.more (by omega) (Nat.le_refl _), by (repeat (first | exact Ext.refl _ | assumption | apply Ext.alloc | apply Ext.drew | apply Ext.drewN | (refine Ext.trans ?_ (by assumption))))⟩

end Go.Proofs.Ytmccffmkfdcmmaa
