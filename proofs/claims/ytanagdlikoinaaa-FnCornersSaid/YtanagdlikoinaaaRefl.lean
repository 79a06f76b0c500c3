/-
  Contracts: ReflexCorners.
-/
import Derived.Test.YtanagdlikoinaaaCor
import Derived.Test.YtanagdlikoinaaaInts
namespace Go.Proofs.Ytanagdlikoinaaa
open Go.RowKit

theorem info_int : (Try.prog.info? 3).map (fun i => (i.zero, i.size, i.bytes)) = some (some (.int .i64 0), 1, 8) := by kernel_rfl

/-- a new block's cells, as what an append takes -/
theorem news_alloc (w : World) (cs : List Value) (T : TypeId) : ∀ j u, cs[j]? = some u → (w.alloc (.cells cs.toArray T)).cell? ((⟨w.heap.size, 0, none⟩ : Addr).add j) = some u :=
  SLn.addr (fun j u hu => by
    have := heap_alloc_new w (.cells cs.toArray T)
    unfold World.cell?
    simp only [this]
    simpa using hu)

/-- the corners below k that are reflex -/
def reflL (l : List (Int × Int)) (k : Nat) : List Int := ((List.range k).filter (reflB l)).map fun (i : Nat) => (i : Int)
theorem reflL_succ (l : List (Int × Int)) (k : Nat) : reflL l (k + 1) = if reflB l k = true then reflL l k ++ [(k : Int)] else reflL l k := by
  unfold reflL
  rw [List.range_succ, List.filter_append, List.map_append]
  cases h : reflB l k <;> simp [h]
theorem reflL_le (l : List (Int × Int)) (k : Nat) : (reflL l k).length ≤ k := by
  unfold reflL
  rw [List.length_map]
  have := List.length_filter_le (reflB l) (List.range k)
  rwa [List.length_range] at this
/-- ReflexCorners, as both texts give it -/
def reflV (l : List (Int × Int)) : List Int := if roomB l = true then reflL l l.length else []
theorem reflV_le (l : List (Int × Int)) : (reflV l).length ≤ l.length := by
  unfold reflV
  split
  · exact reflL_le l _
  · simp

theorem ints_append (a b : List Int) : ints (a ++ b) = ints a ++ ints b := by simp [ints]

set_option maxRecDepth 100000 in
set_option maxHeartbeats 800000 in
theorem ReflexCorners_any (A : Option Addr) (l : List (Int × Int)) (c : Nat) (w : World) (hp : RPts w A l) (hn : l.length ≤ 1048576) :
    Calls Try.prog 8 #[.agg #[.slice A l.length c]] w (RetI 3 (reflV l) w) := by
  obtain ⟨i0, hI, hZ, hS, hY⟩ := info_parts info_int
  have HB : Hid (∀ w', Ext (w.alloc (.cells #[.slice A l.length c] 26)) w' → w'.cell? ⟨w.heap.size, 0, none⟩ = some (.slice A l.length c) ∧ w.heap.size < w'.heap.size) := fun w' hx => by
    and_intros <;> (first | (have hz := hx.size; simp at hz; omega) | ((first | rw [hx.cells _ _ (by first | (simp; done) | (simp; omega))] | rw [hx.frozens _ _ (by first | (simp; done) | (simp; omega))]); (first | (simp [go_sem]; done) | (simp [go_sem, World.cell?_alloc_past]; done) | (simp [go_sem, World.frozen?]; done))))
  cases hr : roomB l
  · have HV := hide (show reflV l = [] by simp [reflV, hr])
    go_enter Try.func8, Try.ntmps8
    go_wp2_with ((go_at_call 29; refine (RoomOk_any _ _ _ _ (hp.ext (by (repeat (first | exact Ext.refl _ | assumption | apply Ext.alloc | apply Ext.drew | apply Ext.drewN | (refine Ext.trans ?_ (by assumption)))))) hn).mono ?_; rintro e w1 ⟨rfl, hb⟩; have hcc := HB.out w1 (by (repeat (first | exact Ext.refl _ | assumption | apply Ext.alloc | apply Ext.drew | apply Ext.drewN | (refine Ext.trans ?_ (by assumption)))))))
    go_ret
    exact ⟨none, 0, by rw [HV.out]; rfl, by rw [HV.out]; exact OwnI.nil, by (repeat (first | exact Ext.refl _ | assumption | apply Ext.alloc | apply Ext.drew | apply Ext.drewN | (refine Ext.trans ?_ (by assumption))))⟩
  · have HV := hide (show reflV l = reflL l l.length by simp [reflV, hr])
    go_enter Try.func8, Try.ntmps8
    go_wp2_with (go_at_call 29; refine (RoomOk_any _ _ _ _ (hp.ext (by (repeat (first | exact Ext.refl _ | assumption | apply Ext.alloc | apply Ext.drew | apply Ext.drewN | (refine Ext.trans ?_ (by assumption)))))) hn).mono ?_; rintro e wa ⟨rfl, hb⟩; have hcc := HB.out wa (by (repeat (first | exact Ext.refl _ | assumption | apply Ext.alloc | apply Ext.drew | apply Ext.drewN | (refine Ext.trans ?_ (by assumption))))))
    have hxa : Ext w (wa.alloc (.cells #[] 3)) := by (repeat (first | exact Ext.refl _ | assumption | apply Ext.alloc | apply Ext.drew | apply Ext.drewN | (refine Ext.trans ?_ (by assumption))))
    clear hcc
    go_loopw [3, 12] (fun out i wr => ∃ (k : Nat) (o : Value), k ≤ l.length ∧ i = .int .i64 k ∧ o = out ∧ Ext (w.alloc (.cells #[.slice A l.length c] 26)) wr ∧ wr.ownsRow (w.heap.size + 1) 3 1 o (reflL l k).length (ints (reflL l k))) (fun _ i _ => l.length - (intOf i).toNat)
    case atStart => exact ⟨0, _, Nat.zero_le _, rfl, rfl, by (repeat (first | exact Ext.refl _ | assumption | apply Ext.alloc | apply Ext.drew | apply Ext.drewN | (refine Ext.trans ?_ (by assumption)))), rfl, .inr ⟨wa.heap.size, 0, #[], rfl, by have := hb.size; simpa using this, heap_alloc_new wa _, Nat.le_refl _, by unfold maxLen; omega, rfl, rfl⟩⟩
    case round =>
      obtain ⟨k, o, hk, rfl, ho, hbl, hown⟩ := hrel; subst ho
      obtain ⟨wq, rfl⟩ : ∃ wq : World, wq = wr := ⟨_, rfl⟩
      have hcb := HB.out wq hbl
      by_cases hlt : k < l.length
      · have hle := reflL_le l k
        cases hbk : reflB l k
        · have HS := hide (show reflL l (k + 1) = reflL l k by rw [reflL_succ, hbk]; rfl)
          go_wp2_with (go_at_call 30; refine (reflex_any _ _ _ _ _ (hp.ext (by (repeat (first | exact Ext.refl _ | assumption | apply Ext.alloc | apply Ext.drew | apply Ext.drewN | (refine Ext.trans ?_ (by assumption)))))) hn hlt).mono ?_; rintro e w1 ⟨rfl, hb1⟩)
          go_roundw
          case rel => exact ⟨k + 1, _, by omega, by go_num, rfl, by (repeat (first | exact Ext.refl _ | assumption | apply Ext.alloc | apply Ext.drew | apply Ext.drewN | (refine Ext.trans ?_ (by assumption)))), by rw [HS.out]; exact ownsRow_ext hown (by (repeat (first | exact Ext.refl _ | assumption | apply Ext.alloc | apply Ext.drew | apply Ext.drewN | (refine Ext.trans ?_ (by assumption)))))⟩
          case measure => simp [intOf]; omega
        · have HS := hide (show reflL l (k + 1) = reflL l k ++ [(k : Int)] by rw [reflL_succ, hbk]; rfl)
          go_wp2_with (first | (go_at_call 30; refine (reflex_any _ _ _ _ _ (hp.ext (by (repeat (first | exact Ext.refl _ | assumption | apply Ext.alloc | apply Ext.drew | apply Ext.drewN | (refine Ext.trans ?_ (by assumption)))))) hn hlt).mono ?_; rintro e w1 ⟨rfl, hb1⟩; have hsz1 := (show Ext (w.alloc (.cells #[.slice A l.length c] 26)) w1 by (repeat (first | exact Ext.refl _ | assumption | apply Ext.alloc | apply Ext.drew | apply Ext.drewN | (refine Ext.trans ?_ (by assumption))))).size; (simp at hsz1)) | (at_builtin; refine wpList_app _ rfl (.tmp 18) (.tmp 20) _ rfl (w.heap.size + 1) 3 i0 _ 1 8 Try.underlying28 hI hZ hS hY rfl (by omega) _ _ (ints (reflL l k)) (by rfl) (ownsRow_ext hown (by (repeat (first | exact Ext.refl _ | assumption | apply Ext.alloc | apply Ext.drew | apply Ext.drewN | (refine Ext.trans ?_ (by assumption)))))) ⟨w1.heap.size, 0, none⟩ 1 1 [.int .i64 (k : Int)] (by rfl) rfl (news_alloc w1 [.int .i64 (k : Int)] 3) (by simp [Value.oneCell']) (by unfold maxLen; omega) (by omega) (by simp; omega) ?_; intro v' w3 hown3 hg3 _))
          have hx3 : Ext (w.alloc (.cells #[.slice A l.length c] 26)) w3 := ext_grown (show Ext (w.alloc (.cells #[.slice A l.length c] 26)) (w1.alloc (.cells #[.int .i64 (k : Int)] 3)) by (repeat (first | exact Ext.refl _ | assumption | apply Ext.alloc | apply Ext.drew | apply Ext.drewN | (refine Ext.trans ?_ (by assumption))))) hg3 (fun q hq => by have := ((ownsRow_ext hown (show Ext wq (w1.alloc (.cells #[.int .i64 (k : Int)] 3)) by (repeat (first | exact Ext.refl _ | assumption | apply Ext.alloc | apply Ext.drew | apply Ext.drewN | (refine Ext.trans ?_ (by assumption)))))).lt q hq).1; simpa using this)
          clear hown hg3
          go_wp2
          go_roundw
          case rel => exact ⟨k + 1, _, by omega, by go_num, rfl, hx3, by rw [HS.out, ints_append, List.length_append]; exact hown3⟩
          case measure => simp [intOf]; omega
      · have e : k = l.length := by omega
        have E := hide e
        clear e
        obtain ⟨A', c', rfl⟩ := ownsRow_slice hown
        go_wp2
        go_ret
        rw [E.out] at hown
        exact ⟨A', c', by rw [HV.out, E.out]; rfl, by rw [HV.out]; exact (OwnI.of_own hown).2.more (by omega) (Nat.le_refl _), by (repeat (first | exact Ext.refl _ | assumption | apply Ext.alloc | apply Ext.drew | apply Ext.drewN | (refine Ext.trans ?_ (by assumption))))⟩

end Go.Proofs.Ytanagdlikoinaaa
