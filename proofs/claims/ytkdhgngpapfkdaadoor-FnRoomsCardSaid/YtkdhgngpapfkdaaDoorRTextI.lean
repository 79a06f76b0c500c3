/-
  Contract: the program's RoomText.
-/
import Derived.Test.YtkdhgngpapfkdaaDoorRText
import Derived.Test.YtkdhgngpapfkdaaDoorJoinLay
namespace Go.Proofs.YtkdhgngpapfkdaaDoor
open Go.RowKit
open Go.Lib (itoa)

set_option maxRecDepth 100000 in
set_option maxHeartbeats 1600000 in
theorem RoomText_any (A : Option Addr) (l : List (Int × Int)) (c : Nat) (w : World) (hp : RPts w A l) (hn : l.length ≤ 1048576) (htab : Lib.TabIs Tryd.prog w "internal/strconv.uint64pow10" .u64 Lib.pow10Tab) :
    Calls Tryd.prog 28 #[.agg #[.slice A l.length c]] w fun e w' => e = .returned (.string (rtxtV l)) ∧ Ext w w' := by
  have HTB := hide htab
  clear htab
  cases hr : roomB l
  · have HV := hide (show rtxtV l = ⟨#[]⟩ by unfold rtxtV; rw [hr]; rfl)
    go_enter Tryd.func28, Tryd.ntmps28
    go_wp2_with (go_at_call 34; refine (RoomOk_any _ _ _ _ (hp.ext (by (repeat (first | exact Ext.refl _ | assumption | apply Ext.alloc | apply Ext.drew | apply Ext.drewN | (refine Ext.trans ?_ (by assumption)))))) hn).mono ?_; rw [hr]; rintro e w1 ⟨rfl, hb1⟩)
    go_ret
    exact ⟨by rw [HV.out]; rfl, by (repeat (first | exact Ext.refl _ | assumption | apply Ext.alloc | apply Ext.drew | apply Ext.drewN | (refine Ext.trans ?_ (by assumption))))⟩
  · have HV := hide (show rtxtV l = txtK l l.length by unfold rtxtV; rw [if_pos hr])
    obtain ⟨i0, hI, hZ, hS, hY⟩ := info_parts info_str
    obtain ⟨hf, h3⟩ := roomB_fine hr
    have HF := hide hf
    have h10 := hf.2
    obtain ⟨b, off, rfl⟩ := hp.some_ (by omega)
    clear hf
    have HC : Hid (∀ w', Ext (w.alloc (.cells #[.slice (some ⟨b, off, none⟩) l.length c] 49)) w' → w'.cell? ⟨w.heap.size, 0, none⟩ = some (.slice (some ⟨b, off, none⟩) l.length c) ∧ w.heap.size < w'.heap.size) := fun w' hx => by
      and_intros <;> (first | (have hz := hx.size; simp at hz; omega) | ((first | rw [hx.cells _ _ (by first | (simp; done) | (simp; omega))] | rw [hx.frozens _ _ (by first | (simp; done) | (simp; omega))]); (first | (simp [go_sem]; done) | (simp [go_sem, World.cell?_alloc_past]; done) | (simp [go_sem, World.frozen?]; done))))
    go_enter Tryd.func28, Tryd.ntmps28
    go_wp2_with (go_at_call 34; refine (RoomOk_any _ _ _ _ (hp.ext (by (repeat (first | exact Ext.refl _ | assumption | apply Ext.alloc | apply Ext.drew | apply Ext.drewN | (refine Ext.trans ?_ (by assumption)))))) hn).mono ?_; rw [hr]; rintro e w1 ⟨rfl, hb1⟩; have f1 := HC.out w1 (by (repeat (first | exact Ext.refl _ | assumption | apply Ext.alloc | apply Ext.drew | apply Ext.drewN | (refine Ext.trans ?_ (by assumption))))))
    clear f1
    go_loopw [3, 13] (fun out i wr => ∃ (k : Nat) (o : Value), k ≤ l.length ∧ i = .int .i64 k ∧ o = out ∧ Ext w1 wr ∧ wr.ownsRow w1.heap.size 9 1 o k (strs (ptL l k))) (fun _ i _ => l.length - (intOf i).toNat)
    case atStart => exact ⟨0, _, Nat.zero_le _, rfl, rfl, by (repeat (first | exact Ext.refl _ | assumption | apply Ext.alloc | apply Ext.drew | apply Ext.drewN | (refine Ext.trans ?_ (by assumption)))), by simp [ptL, strs], .inr ⟨w1.heap.size, 0, _, rfl, Nat.le_refl _, heap_alloc_new w1 _, Nat.zero_le _, by unfold maxLen; omega, by simp, by simp [ptL, strs]⟩⟩
    case round =>
      obtain ⟨k, o, hk, rfl, ho, hbl, hown⟩ := hrel; subst ho
      obtain ⟨wq, rfl⟩ : ∃ wq : World, wq = wr := ⟨_, rfl⟩
      by_cases hlt : k < l.length
      · have q2 : (k : Int) < (l.length : Int) := by omega
        have hpk := HF.out.pok hlt
        obtain ⟨px, hpx⟩ : ∃ x, x = gx l k := ⟨_, rfl⟩
        obtain ⟨py, hpy⟩ : ∃ x, x = gy l k := ⟨_, rfl⟩
        obtain ⟨hz, hx, hy⟩ := (hp.ext (show Ext w wq by (repeat (first | exact Ext.refl _ | assumption | apply Ext.alloc | apply Ext.drew | apply Ext.drewN | (refine Ext.trans ?_ (by assumption)))))).cell hlt
        have HS := hide (show strs (ptL l (k + 1)) = strs (ptL l k) ++ [.string (ptB px py)] by rw [ptL_succ, strs_append, hpx, hpy]; rfl)
        rw [← hpx, ← hpy] at hpk
        rw [← hpx] at hx
        rw [← hpy] at hy
        have HPK := hide hpk
        clear hpk hpx hpy
        have HQ : Hid (∀ w', Ext (wq.alloc (.cells #[.int .i64 px, .int .i64 py] 27)) w' → w'.cell? ⟨wq.heap.size, 0, none⟩ = some (.int .i64 px) ∧ w'.cell? ⟨wq.heap.size, 1, none⟩ = some (.int .i64 py) ∧ wq.heap.size < w'.heap.size) := fun w' hx => by
          and_intros <;> (first | (have hz := hx.size; simp at hz; omega) | ((first | rw [hx.cells _ _ (by first | (simp; done) | (simp; omega))] | rw [hx.frozens _ _ (by first | (simp; done) | (simp; omega))]); (first | (simp [go_sem]; done) | (simp [go_sem, World.cell?_alloc_past]; done) | (simp [go_sem, World.frozen?]; done))))
        go_wp2_with (first | (go_at_call 14; refine (PointText_ok _ _ _ HPK.out (tab_ext gTab HTB.out (by (repeat (first | exact Ext.refl _ | assumption | apply Ext.alloc | apply Ext.drew | apply Ext.drewN | (refine Ext.trans ?_ (by assumption))))))).mono ?_; rintro e w2 ⟨rfl, hb2⟩; have fq := HQ.out w2 (by (repeat (first | exact Ext.refl _ | assumption | apply Ext.alloc | apply Ext.drew | apply Ext.drewN | (refine Ext.trans ?_ (by assumption)))))) | (at_builtin; refine wpList_app _ rfl (.tmp 17) (.tmp 20) _ rfl w1.heap.size 9 i0 _ 1 16 Tryd.underlying38 hI hZ hS hY rfl (by omega) _ _ (strs (ptL l k)) (by rfl) (ownsRow_ext hown (show Ext wq (w2.alloc (.cells #[.string (ptB px py)] 9)) by (repeat (first | exact Ext.refl _ | assumption | apply Ext.alloc | apply Ext.drew | apply Ext.drewN | (refine Ext.trans ?_ (by assumption)))))) ⟨w2.heap.size, 0, none⟩ 1 1 [.string (ptB px py)] (by rfl) rfl (news_allocS w2 [.string (ptB px py)] 9) (by simp [Value.oneCell']) (by unfold maxLen; omega) (by omega) (show Ext w1 (w2.alloc (.cells #[.string (ptB px py)] 9)) by (repeat (first | exact Ext.refl _ | assumption | apply Ext.alloc | apply Ext.drew | apply Ext.drewN | (refine Ext.trans ?_ (by assumption))))).size ?_; intro v' w3 hown3 hg3 _))
        have hx3 : Ext w1 w3 := ext_grown (show Ext w1 (w2.alloc (.cells #[.string (ptB px py)] 9)) by (repeat (first | exact Ext.refl _ | assumption | apply Ext.alloc | apply Ext.drew | apply Ext.drewN | (refine Ext.trans ?_ (by assumption))))) hg3 (fun q hq => ((ownsRow_ext hown (show Ext wq (w2.alloc (.cells #[.string (ptB px py)] 9)) by (repeat (first | exact Ext.refl _ | assumption | apply Ext.alloc | apply Ext.drew | apply Ext.drewN | (refine Ext.trans ?_ (by assumption)))))).lt q hq).1)
        clear hown hg3
        go_wp2
        go_roundw
        case rel => exact ⟨k + 1, _, by omega, by go_num, rfl, hx3, by rw [HS.out]; exact hown3⟩
        case measure => simp [intOf]; omega
      · have e : k = l.length := by omega
        have q2 : ¬ (k : Int) < (l.length : Int) := by omega
        subst e
        rcases hown.2 with ⟨_, h0⟩ | ⟨g, cap, cur, rfl, hgb, hh, hcap, _, hsz, htake⟩
        · omega
        · have hlen : (ptL l l.length).length = l.length := ptL_length l _
          have hcells : ∀ (j : Nat) (x : ByteArray), (ptL l l.length)[j]? = some x → wq.cell? ⟨g, 0 + j, none⟩ = some (.string x) := fun j x hj => by
            have hjl : j < (ptL l l.length).length := by
              rcases Nat.lt_or_ge j (ptL l l.length).length with h | h
              · exact h
              · rw [List.getElem?_eq_none h] at hj; cases hj
            have e1 : (strs (ptL l l.length))[j]? = some (.string x) := by simp [strs, hj]
            rw [← htake, List.getElem?_take, if_pos (by omega)] at e1
            rw [Nat.zero_add]
            simp only [World.cell?, hh]
            simpa using e1
          have hjoin : Lib.join ((ptL l l.length).map (·.data.toList)) (⟨#[32]⟩ : ByteArray).data.toList = byl (txtK l l.length) := (txtK_join l l.length).symm
          have hjl : (byl (txtK l l.length)).length ≤ 440 := by
            rw [byl_length]
            have := txtK_size HF.out l.length (Nat.le_refl _)
            omega
          have hJ := Tryd.strings_Join g 0 cap (ptL l l.length) ⟨#[32]⟩ wq hcells (by have := hv_lt hh; exact this) (by omega) (by omega) (by rw [hjoin]; omega)
          rw [hjoin, mk_byl, hlen] at hJ
          have HJ := hide hJ
          clear hJ hjoin hjl hcells hlen htake hsz hh hcap hown
          go_wp2_with fail
          refine HJ.out.mono ?_
          rintro e w4 ⟨rfl, hb4⟩
          go_wp2
          go_ret
          exact ⟨by rw [HV.out]; rfl, Ext.trans (show Ext w wq by (repeat (first | exact Ext.refl _ | assumption | apply Ext.alloc | apply Ext.drew | apply Ext.drewN | (refine Ext.trans ?_ (by assumption))))) hb4⟩

end Go.Proofs.YtkdhgngpapfkdaaDoor
