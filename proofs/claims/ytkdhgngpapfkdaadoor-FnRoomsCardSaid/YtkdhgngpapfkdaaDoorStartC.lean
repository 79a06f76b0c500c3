/-
  Contract: the program's StartAt, with the capacity of what it returns.
-/
import Derived.Test.YtkdhgngpapfkdaaDoorDrawS
namespace Go.Proofs.YtkdhgngpapfkdaaDoor
open Go.RowKit

set_option maxRecDepth 100000 in
set_option maxHeartbeats 3200000 in
theorem StartAt_cap (b off : Nat) (l : List (Int × Int)) (c m : Nat) (w : World) (hp : RPts w (some ⟨b, off, none⟩) l) (hn : l.length ≤ 1048576) (hc : l.length ≤ c) (hm : m < l.length) (hk : hasC l (m : Int) = true) :
    Calls Tryd.prog 32 #[.agg #[.slice (some ⟨b, off, none⟩) l.length c], .int .i64 m] w (RetQ (startL l m) w) := by
  obtain ⟨i0, hI, hZ, hS, hY⟩ := info_parts info_ipt
  have HB : Hid (∀ w', Ext ((w.alloc (.cells #[.slice (some ⟨b, off, none⟩) l.length c] 49)).alloc (.cells #[.slice none 0 0] 49)) w' → w'.cell? ⟨w.heap.size, 0, none⟩ = some (.slice (some ⟨b, off, none⟩) l.length c) ∧ w.heap.size < w'.heap.size ∧ w'.cell? ⟨w.heap.size + 1, 0, none⟩ = some (.slice none 0 0) ∧ w'.frozen? ⟨w.heap.size + 1, 0, none⟩ = false ∧ w.heap.size + 1 < w'.heap.size) := fun w' hx => by
    and_intros <;> (first | (have hz := hx.size; simp at hz; omega) | ((first | rw [hx.cells _ _ (by first | (simp; done) | (simp; omega))] | rw [hx.frozens _ _ (by first | (simp; done) | (simp; omega))]); (first | (simp [go_sem]; done) | (simp [go_sem, World.cell?_alloc_past]; done) | (simp [go_sem, World.frozen?]; done))))
  have t1 : (m : Int) ≤ (l.length : Int) := by omega
  have t2 : m ≤ l.length := by omega
  have t3 : m ≤ c := by omega
  have t4 : (0 : Int) ≤ (m : Int) := by omega
  have t5 : ¬ c = m := by omega
  have t6 : ¬ m = c := by omega
  go_enter Tryd.func32, Tryd.ntmps32
  go_wp2_with ((go_at_call 55; refine (hasCorner_any _ _ _ _ _ (hp.ext (by (repeat (first | exact Ext.refl _ | assumption | apply Ext.alloc | apply Ext.drew | apply Ext.drewN | (refine Ext.trans ?_ (by assumption)))))) hn).mono ?_; rintro e w1 ⟨rfl, hb⟩; have hcc := HB.out w1 (by (repeat (first | exact Ext.refl _ | assumption | apply Ext.alloc | apply Ext.drew | apply Ext.drewN | (refine Ext.trans ?_ (by assumption)))))))
  obtain ⟨wx, rfl⟩ : ∃ wx : World, wx = w1 := ⟨_, rfl⟩
  have hpx : RPts wx (some ⟨b, off, none⟩) l := hp.ext (by (repeat (first | exact Ext.refl _ | assumption | apply Ext.alloc | apply Ext.drew | apply Ext.drewN | (refine Ext.trans ?_ (by assumption)))))
  have hsx : w.heap.size ≤ wx.heap.size := (show Ext w wx by (repeat (first | exact Ext.refl _ | assumption | apply Ext.alloc | apply Ext.drew | apply Ext.drewN | (refine Ext.trans ?_ (by assumption))))).size
  refine wp_flow_tail 10 (by kernel_rfl) (by kernel_rfl) (by kernel_rfl) (by kernel_rfl) (fun u => ⟨#[_, _, _, _, _, _, _, _, _, _, u 0, u 1, u 2, u 3, u 4, u 5, u 6, u 7, u 8, u 9, _, _], _⟩) (fun i => List.getD [_, _, _, _, _, _, _, _, _, _] i undef) [(Emp), is ?v1_1, is ?v1_2, is ?v1_3, is ?v1_4, (AppR wx.heap.size 27 (l.length - m) (flat (l.drop m))), is ?v1_6, is ?v1_7, is ?v1_8, is ?v1_9] (fun w' => w'.cell? ⟨w.heap.size, 0, none⟩ = some (.slice (some ⟨b, off, none⟩) l.length c) ∧ w.heap.size < w'.heap.size ∧ w'.cell? ⟨w.heap.size + 1, 0, none⟩ = some (.slice none 0 0) ∧ w'.frozen? ⟨w.heap.size + 1, 0, none⟩ = false ∧ w.heap.size + 1 < w'.heap.size) _ rfl ?hC1 ?hs1 ?hV1 ?fin1
  case hC1 => exact fun w' hx => (by have hq : Ext _ w' := hx; have hf0 := HB.out w' (by (repeat (first | exact Ext.refl _ | assumption | apply Ext.alloc | apply Ext.drew | apply Ext.drewN | (refine Ext.trans ?_ (by assumption))))); and_intros <;> first | exact hf0 | exact hf0.1 | exact hf0.2.1 | exact hf0.2.2.1 | exact hf0.2.2.2.1 | exact hf0.2.2.2.2.1 | exact hf0.2.2.2.2.2.1 | exact hf0.2.2.2.2.2.2.1 | exact hf0.2.2.2.2.2.2.2.1 | exact hf0.2.2.2.2.2.2.2.2.1 | exact hf0.2.2.2.2.2.2.2.2.2.1 | exact hf0.2.2.2.2.2.2.2.2.2.2.1 | exact hf0.2.2.2.2.2.2.2.2.2.2.2.1 | exact hf0.2.2.2.2.2.2.2.2.2.2.2.2.1 | exact hf0.2.2.2.2.2.2.2.2.2.2.2.2.2.1 | exact hf0.2 | exact hf0.2.2 | exact hf0.2.2.2 | exact hf0.2.2.2.2 | exact hf0.2.2.2.2.2 | exact hf0.2.2.2.2.2.2 | exact hf0.2.2.2.2.2.2.2 | exact hf0.2.2.2.2.2.2.2.2 | exact hf0.2.2.2.2.2.2.2.2.2 | exact hf0.2.2.2.2.2.2.2.2.2.2 | exact hf0.2.2.2.2.2.2.2.2.2.2.2 | exact hf0.2.2.2.2.2.2.2.2.2.2.2.2 | exact hf0.2.2.2.2.2.2.2.2.2.2.2.2.2)
  case hs1 =>
    repeat' (first
      | exact FSteps.nil
      | refine FSteps.cons ?_ ?_
      | (refine FStep.off_ _ _ _ rfl rfl ?_ (fun _ => rfl) ?_; (focus (intro u w hd; simp [vOf, is, Region.binds] at hd; simp [hd])); (intro w'; exact rfl); done)
      | ((first
          | refine FStep.plain rfl ?_
          | (refine FStep.on_ _ _ _ rfl rfl ?_ ?_; (focus (intro u w hd; simp [vOf, is, Region.binds] at hd; simp [hd]))))
         intro u w hW hC hd K hK
         (try simp [vOf, is, Region.binds] at hd)
         simp only [upd, Nat.reduceEqDiff, if_true, if_false] at hK
         (try simp only [hd] at hK)
         first
         | (obtain ⟨⟨bq, hbq⟩, hd4⟩ := hd; (try simp only [hbq, hd4] at hK); (try simp only [hbq, hd4]); refine oper_app_empty _ _ _ _ rfl 27 i0 _ 2 16 Tryd.underlying47 hI hZ hS hY rfl (by omega) bq rfl ⟨b, off + m * 2, none⟩ (l.length - m) (c - m) (flat (l.drop m)) rfl (by rw [flat_length, List.length_drop]) (seg_drop (hpx.ext (by (repeat (first | exact Ext.refl _ | assumption | apply Ext.alloc | apply Ext.drew | apply Ext.drewN | (refine Ext.trans ?_ (by assumption)))))) m) (by omega) (by unfold maxLen; omega) (by omega) ?_; intro v' w3 ho3 hx3; refine hK _ _ ?_ ?_; exact ownsRow_mono ho3 (by have := (show Ext wx w by (repeat (first | exact Ext.refl _ | assumption | apply Ext.alloc | apply Ext.drew | apply Ext.drewN | (refine Ext.trans ?_ (by assumption))))).size; omega); (repeat (first | exact Ext.refl _ | assumption | apply Ext.alloc | apply Ext.drew | apply Ext.drewN | (refine Ext.trans ?_ (by assumption)))); done)
         | (go_simp; (first
           | (refine hK _ _ ?_ ?_; (first | exact rfl | exact ⟨_, rfl⟩); (repeat (first | exact Ext.refl _ | assumption | apply Ext.alloc | apply Ext.drew | apply Ext.drewN | (refine Ext.trans ?_ (by assumption)))))))))
  case hV1 => (simp only [List.forall_mem_cons]; simp [stable_is, Emp_stable, AppR_stable])
  case fin1 =>
    intro u w2 hW2 hC2 hd
    simp only [AllV, is] at hd
    have hs0 := hd.1
    have hs5 := hd.2.2.2.2.2.1
    simp only [List.drop_succ_cons, List.drop_zero]
    simp only [hd]
    clear hd
    obtain ⟨A1, c1, hu5⟩ := ownsRow_slice hs5
    simp only [hu5] at hs5 ⊢
    have hz2 := (show Ext wx w2 by (repeat (first | exact Ext.refl _ | assumption | apply Ext.alloc | apply Ext.drew | apply Ext.drewN | (refine Ext.trans ?_ (by assumption))))).size
    (refine wpList_app _ rfl (.tmp 15) (.tmp 19) _ rfl wx.heap.size 27 i0 _ 2 16 Tryd.underlying47 hI hZ hS hY rfl (by omega) _ _ (flat (l.drop m)) (by rfl) hs5 ⟨b, off, none⟩ m c (flat (l.take m)) (by rfl) (by rw [flat_length, List.length_take]; omega) (seg_take (hpx.ext (by (repeat (first | exact Ext.refl _ | assumption | apply Ext.alloc | apply Ext.drew | apply Ext.drewN | (refine Ext.trans ?_ (by assumption)))))) m) (flat_one _) (by unfold maxLen; omega) (by omega) (by omega) ?_; intro v' w3 hown3 hg3 _)
    have hx3 : Ext wx w3 := ext_grown (show Ext wx w2 by (repeat (first | exact Ext.refl _ | assumption | apply Ext.alloc | apply Ext.drew | apply Ext.drewN | (refine Ext.trans ?_ (by assumption))))) hg3 (fun q hq => (hs5.lt q hq).1)
    obtain ⟨A3, c3, rfl⟩ := ownsRow_slice hown3
    have f3 := HB.out w3 (by (repeat (first | exact Ext.refl _ | assumption | apply Ext.alloc | apply Ext.drew | apply Ext.drewN | (refine Ext.trans ?_ (by assumption)))))
    go_wp2
    refine bodyPost_ret (v := .agg #[.slice A3 l.length c3]) (by simp [results, Tryd.results32, go_sem, f3]) rfl ⟨A3, c3, by rw [startL_length], by rw [startL_length]; exact own_cap (by rw [show l.length - m + m = l.length by omega] at hown3; exact hown3) (by omega), ?_, by (repeat (first | exact Ext.refl _ | assumption | apply Ext.alloc | apply Ext.drew | apply Ext.drewN | (refine Ext.setCell ?_ (by simp; done) _) | (refine Ext.setCell ?_ (by simp; omega) _) | (refine Ext.trans ?_ (by assumption))))⟩
    have hlen : l.length - m + m = (startL l m).length := by rw [startL_length]; omega
    have hown4 : w3.ownsRow wx.heap.size 27 2 (.slice A3 (l.length - m + m) c3) (l.length - m + m) (flat (startL l m)) := by unfold startL; rw [flat_append]; exact hown3
    have h5 := (OwnS.of_own hown4).2
    have hzx := (show Ext ((w.alloc (.cells #[.slice (some ⟨b, off, none⟩) l.length c] 49)).alloc (.cells #[.slice none 0 0] 49)) wx by (repeat (first | exact Ext.refl _ | assumption | apply Ext.alloc | apply Ext.drew | apply Ext.drewN | (refine Ext.trans ?_ (by assumption))))).size
    simp at hzx
    exact (h5.set_below (p := ⟨w.heap.size + 1, 0, none⟩) (by show w.heap.size + 1 < wx.heap.size; omega) _).more (by omega) (by rw [size_setCell]; exact Nat.le_refl _)

end Go.Proofs.YtkdhgngpapfkdaaDoor
