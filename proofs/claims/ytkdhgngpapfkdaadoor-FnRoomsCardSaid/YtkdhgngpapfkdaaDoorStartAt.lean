/-
  Contracts: StartAt.
-/
import Derived.Test.YtkdhgngpapfkdaaDoorCor
import Derived.Test.YtkdhgngpapfkdaaDoorRefl
namespace Go.Proofs.YtkdhgngpapfkdaaDoor
open Go.RowKit

/-- a room begun at corner k -/
def startL (l : List (Int × Int)) (k : Nat) : List (Int × Int) := l.drop k ++ l.take k
theorem startL_length (l : List (Int × Int)) (k : Nat) : (startL l k).length = l.length := by
  unfold startL
  rw [List.length_append, List.length_drop, List.length_take]
  omega
/-- StartAt's corners, as both texts give them -/
def startV (l : List (Int × Int)) (k : Int) : List (Int × Int) := if hasC l k = true then startL l k.toNat else []

section
variable {P : Program} (w : World)
/-- an append to an empty row that is not nil -/
theorem oper_app_empty {o : Oper} {a : Act} {K : Act → World → Prop} {Q : Exit → Act → World → Prop} (s x : Operand) (t : TypeId)
    (ho : o.op = .call { callee := .builtin .append, args := #[s, x], argTypes := #[t, t] })
    (e : Nat) (i : TypeInfo) (z : Value) (size bytes : Nat) (ht : P.underlying t = some (.slice e)) (hi : P.info? e = some i) (hz : i.zero = some z)
    (hsize : i.size = size) (hby : i.bytes = bytes) (hzs : z.cells.size = size) (hsz : 0 < size)
    (b : Addr) (hs : a.eval s = .slice (some b) 0 0)
    (ad : Addr) (m c : Nat) (news : List Value) (hx : a.eval x = .slice (some ad) m c) (hl : news.length = m * size) (hnews : ∀ j u, news[j]? = some u → w.cell? (ad.add j) = some u)
    (h0 : 0 < m) (h63 : m ≤ maxLen) (hbytes : m * bytes ≤ 140737488355328)
    (h : ∀ v' w', w'.ownsRow w.heap.size e size v' m news → Ext w w' → K (a.put o.dst v') w') : o.wp P a w K Q := by
  subst hsize
  subst hby
  have hsmall : m ≤ 9223372036854775807 := by simp only [maxLen] at h63; omega
  have hn0 : Builtin.nextslicecap (0 + m) 0 = m := by rw [Nat.zero_add]; exact nextslicecap_zero h0
  have hr := run_append_grow (P := P) w t o.type e i z ht hi hz b 0 0 [] (by simp) (fun j v hv => by simp at hv) ad m c news hl hnews (by omega) (by omega) (by rw [hn0]; omega)
  unfold Oper.wp execOp
  simp only [ho, resolve, invoke, builtin, Sem.run_bind, Sem.run_pure, Result.andThen_ok, List.map_toArray, List.map_cons, List.map_nil, hs, hx, hr]
  refine h _ _ ⟨hl, .inr ⟨w.heap.size, _, _, by rw [Nat.zero_add], Nat.le_refl _, heap_alloc_new w.drew _, by have := grownCap_ge w (0 + m) 0 e; omega, grownCap_le_maxLen w (0 + m) 0 e (by omega), ?_, ?_⟩⟩ (((Ext.refl w).drew).alloc _)
  · have := grownCap_ge w (0 + m) 0 e
    simp only [Array.size_append, List.size_toArray, size_zeroCells, hzs, hl, List.length_nil, Nat.zero_add]
    rw [Nat.zero_add] at this
    rw [← Nat.add_mul]
    congr 1
    omega
  · simp only [Array.toList_append, List.nil_append]
    rw [← hl]
    exact List.take_left
end

theorem seg_drop {w : World} {b off : Nat} {l : List (Int × Int)} (h : RPts w (some ⟨b, off, none⟩) l) (m : Nat) : ∀ j u, (flat (l.drop m))[j]? = some u → w.cell? ((⟨b, off + m * 2, none⟩ : Addr).add j) = some u := by
  intro j u hu
  obtain ⟨q, hq, h2⟩ := flat_at _ j u hu
  rw [List.length_drop] at hq
  obtain ⟨_, hx, hy⟩ := h.cell (show m + q < l.length by omega)
  have e1 : gx (l.drop m) q = gx l (m + q) := by unfold gx; simp
  have e2 : gy (l.drop m) q = gy l (m + q) := by unfold gy; simp
  rcases h2 with ⟨rfl, rfl⟩ | ⟨rfl, rfl⟩
  · rw [e1, ← hx, show ((⟨b, off + m * 2, none⟩ : Addr).add (q * 2)) = ⟨b, off + (m + q) * 2, none⟩ by simp [Addr.add, Nat.add_mul, Nat.add_assoc]]
  · rw [e2, ← hy, show ((⟨b, off + m * 2, none⟩ : Addr).add (q * 2 + 1)) = ⟨b, off + (m + q) * 2 + 1, none⟩ by simp [Addr.add, Nat.add_mul, Nat.add_assoc]]
theorem seg_take {w : World} {b off : Nat} {l : List (Int × Int)} (h : RPts w (some ⟨b, off, none⟩) l) (m : Nat) : ∀ j u, (flat (l.take m))[j]? = some u → w.cell? ((⟨b, off, none⟩ : Addr).add j) = some u := by
  intro j u hu
  obtain ⟨q, hq, h2⟩ := flat_at _ j u hu
  rw [List.length_take] at hq
  obtain ⟨_, hx, hy⟩ := h.cell (show q < l.length by omega)
  have e1 : gx (l.take m) q = gx l q := by unfold gx; simp only [List.getD_eq_getElem?_getD, List.getElem?_take]; rw [if_pos (by omega)]
  have e2 : gy (l.take m) q = gy l q := by unfold gy; simp only [List.getD_eq_getElem?_getD, List.getElem?_take]; rw [if_pos (by omega)]
  rcases h2 with ⟨rfl, rfl⟩ | ⟨rfl, rfl⟩
  · rw [e1, ← hx, show ((⟨b, off, none⟩ : Addr).add (q * 2)) = ⟨b, off + q * 2, none⟩ by simp [Addr.add]]
  · rw [e2, ← hy, show ((⟨b, off, none⟩ : Addr).add (q * 2 + 1)) = ⟨b, off + q * 2 + 1, none⟩ by simp [Addr.add]; omega]

theorem ownsRow_mono {w : World} {base base' e size n : Nat} {v : Value} {xs : List Value} (h : w.ownsRow base e size v n xs) (hb : base' ≤ base) : w.ownsRow base' e size v n xs := by
  obtain ⟨h1, h2⟩ := h
  refine ⟨h1, ?_⟩
  rcases h2 with h2 | ⟨g, cap, cur, hv, hg, h3⟩
  · exact .inl h2
  · exact .inr ⟨g, cap, cur, hv, by omega, h3⟩

theorem flat_one (l : List (Int × Int)) : ∀ u ∈ flat l, u.oneCell' = true := by
  intro u hu
  simp only [flat, List.mem_flatMap] at hu
  obtain ⟨p, _, hp⟩ := hu
  simp only [List.mem_cons, List.not_mem_nil, or_false] at hp
  rcases hp with rfl | rfl <;> rfl

/-- an empty row that is not nil -/
def Emp (v : Value) (_ : World) : Prop := ∃ b, v = .slice (some b) 0 0
theorem Emp_stable : Stable Emp := fun _ _ _ h _ => h
theorem Emp_mk (b : Addr) (w : World) : Emp (.slice (some b) 0 0) w := ⟨b, rfl⟩
/-- a row of the call's own with these cells -/
def AppR (base : Nat) (T : TypeId) (n : Nat) (xs : List Value) (v : Value) (w : World) : Prop := w.ownsRow base T 2 v n xs
theorem AppR_stable (base : Nat) (T : TypeId) (n : Nat) (xs : List Value) : Stable (AppR base T n xs) := fun _ _ _ h hx => ownsRow_ext h hx

set_option maxRecDepth 100000 in
set_option maxHeartbeats 3200000 in
theorem StartAt_true (b off : Nat) (l : List (Int × Int)) (c m : Nat) (w : World) (hp : RPts w (some ⟨b, off, none⟩) l) (hn : l.length ≤ 1048576) (hc : l.length ≤ c) (hm : m < l.length) (hk : hasC l (m : Int) = true) :
    Calls Tryd.prog 32 #[.agg #[.slice (some ⟨b, off, none⟩) l.length c], .int .i64 m] w (fun e w' => ∃ A' c', e = .returned (.agg #[.slice A' l.length c']) ∧ OwnS w' w.heap.size w'.heap.size 27 A' (startL l m) ∧ Ext w w') := by
  obtain ⟨i0, hI, hZ, hS, hY⟩ := info_parts info_ipt
  have HB : Hid (∀ w', Ext ((w.alloc (.cells #[.slice (some ⟨b, off, none⟩) l.length c] 49)).alloc (.cells #[.slice none 0 0] 49)) w' → w'.cell? ⟨w.heap.size, 0, none⟩ = some (.slice (some ⟨b, off, none⟩) l.length c) ∧ w.heap.size < w'.heap.size ∧ w'.cell? ⟨w.heap.size + 1, 0, none⟩ = some (.slice none 0 0) ∧ w'.frozen? ⟨w.heap.size + 1, 0, none⟩ = false ∧ w.heap.size + 1 < w'.heap.size) := fun w' hx => by
    and_intros <;> (first | (have hz := hx.size; simp at hz; omega) | ((first | rw [hx.cells _ _ (by first | (simp; done) | (simp; omega))] | rw [hx.frozens _ _ (by first | (simp; done) | (simp; omega))]); (first | (simp [go_sem]; done) | (simp [go_sem, World.cell?_alloc_past]; done) | (simp [go_sem, World.frozen?]; done))))
  have t1 : (m : Int) ≤ (l.length : Int) := by omega
  have t2 : m ≤ l.length := by omega
  have t3 : m ≤ c := by omega
  have t4 : (0 : Int) ≤ (m : Int) := by omega
  have t5 : ¬ c = m := by omega
  have t6 : ¬ m = c := by omega
  go_enter Tryd.func32, Tryd.ntmps32
  go_wp2_with ((go_at_call 55; refine (hasCorner_any _ _ _ _ _ (hp.ext (by (repeat (first | exact Ext.refl _ | assumption | apply Ext.alloc | apply Ext.drew | apply Ext.drewN | (refine Ext.trans ?_ (by assumption)))))) hn).mono ?_; rintro e w1 ⟨rfl, hb⟩; have hcc := HB.out w1 (by (repeat (first | exact Ext.refl _ | assumption | apply Ext.alloc | apply Ext.drew | apply Ext.drewN | (refine Ext.trans ?_ (by assumption)))))))
  obtain ⟨wx, rfl⟩ : ∃ wx : World, wx = w1 := ⟨_, rfl⟩
  have hpx : RPts wx (some ⟨b, off, none⟩) l := hp.ext (by (repeat (first | exact Ext.refl _ | assumption | apply Ext.alloc | apply Ext.drew | apply Ext.drewN | (refine Ext.trans ?_ (by assumption)))))
  have hsx : w.heap.size ≤ wx.heap.size := (show Ext w wx by (repeat (first | exact Ext.refl _ | assumption | apply Ext.alloc | apply Ext.drew | apply Ext.drewN | (refine Ext.trans ?_ (by assumption))))).size
  refine wp_flow_tail 10 (by kernel_rfl) (by kernel_rfl) (by kernel_rfl) (by kernel_rfl) (fun u => ⟨#[_, _, _, _, _, _, _, _, _, _, u 0, u 1, u 2, u 3, u 4, u 5, u 6, u 7, u 8, u 9, _, _], _⟩) (fun i => List.getD [_, _, _, _, _, _, _, _, _, _] i undef) [(Emp), is ?v1_1, is ?v1_2, is ?v1_3, is ?v1_4, (AppR wx.heap.size 27 (l.length - m) (flat (l.drop m))), is ?v1_6, is ?v1_7, is ?v1_8, is ?v1_9] (fun w' => w'.cell? ⟨w.heap.size, 0, none⟩ = some (.slice (some ⟨b, off, none⟩) l.length c) ∧ w.heap.size < w'.heap.size ∧ w'.cell? ⟨w.heap.size + 1, 0, none⟩ = some (.slice none 0 0) ∧ w'.frozen? ⟨w.heap.size + 1, 0, none⟩ = false ∧ w.heap.size + 1 < w'.heap.size) _ rfl ?hC1 ?hs1 ?hV1 ?fin1
  case hC1 => exact fun w' hx => (by have hq : Ext _ w' := hx; have hf0 := HB.out w' (by (repeat (first | exact Ext.refl _ | assumption | apply Ext.alloc | apply Ext.drew | apply Ext.drewN | (refine Ext.trans ?_ (by assumption))))); and_intros <;> first | exact hf0 | exact hf0.1 | exact hf0.2.1 | exact hf0.2.2.1 | exact hf0.2.2.2.1 | exact hf0.2.2.2.2.1 | exact hf0.2.2.2.2.2.1 | exact hf0.2.2.2.2.2.2.1 | exact hf0.2.2.2.2.2.2.2.1 | exact hf0.2.2.2.2.2.2.2.2.1 | exact hf0.2.2.2.2.2.2.2.2.2.1 | exact hf0.2.2.2.2.2.2.2.2.2.2.1 | exact hf0.2.2.2.2.2.2.2.2.2.2.2.1 | exact hf0.2.2.2.2.2.2.2.2.2.2.2.2.1 | exact hf0.2.2.2.2.2.2.2.2.2.2.2.2.2.1 | exact hf0.2 | exact hf0.2.2 | exact hf0.2.2.2 | exact hf0.2.2.2.2 | exact hf0.2.2.2.2.2 | exact hf0.2.2.2.2.2.2 | exact hf0.2.2.2.2.2.2.2 | exact hf0.2.2.2.2.2.2.2.2 | exact hf0.2.2.2.2.2.2.2.2.2 | exact hf0.2.2.2.2.2.2.2.2.2.2 | exact hf0.2.2.2.2.2.2.2.2.2.2.2 | exact hf0.2.2.2.2.2.2.2.2.2.2.2.2 | exact hf0.2.2.2.2.2.2.2.2.2.2.2.2.2)
  case hs1 =>
    repeat' (first
      | exact FSteps.nil
      | refine FSteps.cons ?_ ?_
      | (refine FStep.off_ _ _ _ rfl rfl ?_ (fun _ => rfl) ?_; (focus (intro u w hd; simp [vOf, is, Region.binds] at hd; simp [hd])); (intro w'; exact rfl); done)
      | ((first
          | refine FStep.plain rfl ?_
          | (refine FStep.on_ _ _ _ rfl rfl ?_ ?_; (focus (intro u w hd; simp [vOf, is, Region.binds] at hd; simp [hd]))))
         intro u w hW hC hd K hK
         (try simp [vOf, is, Region.binds] at hd)
         simp only [upd, Nat.reduceEqDiff, if_true, if_false] at hK
         (try simp only [hd] at hK)
         first
         | (obtain ⟨⟨bq, hbq⟩, hd4⟩ := hd; (try simp only [hbq, hd4] at hK); (try simp only [hbq, hd4]); refine oper_app_empty _ _ _ _ rfl 27 i0 _ 2 16 Tryd.underlying47 hI hZ hS hY rfl (by omega) bq rfl ⟨b, off + m * 2, none⟩ (l.length - m) (c - m) (flat (l.drop m)) rfl (by rw [flat_length, List.length_drop]) (seg_drop (hpx.ext (by (repeat (first | exact Ext.refl _ | assumption | apply Ext.alloc | apply Ext.drew | apply Ext.drewN | (refine Ext.trans ?_ (by assumption)))))) m) (by omega) (by unfold maxLen; omega) (by omega) ?_; intro v' w3 ho3 hx3; refine hK _ _ ?_ ?_; exact ownsRow_mono ho3 (by have := (show Ext wx w by (repeat (first | exact Ext.refl _ | assumption | apply Ext.alloc | apply Ext.drew | apply Ext.drewN | (refine Ext.trans ?_ (by assumption))))).size; omega); (repeat (first | exact Ext.refl _ | assumption | apply Ext.alloc | apply Ext.drew | apply Ext.drewN | (refine Ext.trans ?_ (by assumption)))); done)
         | (go_simp; (first
           | (refine hK _ _ ?_ ?_; (first | exact rfl | exact ⟨_, rfl⟩); (repeat (first | exact Ext.refl _ | assumption | apply Ext.alloc | apply Ext.drew | apply Ext.drewN | (refine Ext.trans ?_ (by assumption)))))))))
  case hV1 => (simp only [List.forall_mem_cons]; simp [stable_is, Emp_stable, AppR_stable])
  case fin1 =>
    intro u w2 hW2 hC2 hd
    simp only [AllV, is] at hd
    have hs0 := hd.1
    have hs5 := hd.2.2.2.2.2.1
    simp only [List.drop_succ_cons, List.drop_zero]
    simp only [hd]
    clear hd
    obtain ⟨A1, c1, hu5⟩ := ownsRow_slice hs5
    simp only [hu5] at hs5 ⊢
    have hz2 := (show Ext wx w2 by (repeat (first | exact Ext.refl _ | assumption | apply Ext.alloc | apply Ext.drew | apply Ext.drewN | (refine Ext.trans ?_ (by assumption))))).size
    (refine wpList_app _ rfl (.tmp 15) (.tmp 19) _ rfl wx.heap.size 27 i0 _ 2 16 Tryd.underlying47 hI hZ hS hY rfl (by omega) _ _ (flat (l.drop m)) (by rfl) hs5 ⟨b, off, none⟩ m c (flat (l.take m)) (by rfl) (by rw [flat_length, List.length_take]; omega) (seg_take (hpx.ext (by (repeat (first | exact Ext.refl _ | assumption | apply Ext.alloc | apply Ext.drew | apply Ext.drewN | (refine Ext.trans ?_ (by assumption)))))) m) (flat_one _) (by unfold maxLen; omega) (by omega) (by omega) ?_; intro v' w3 hown3 hg3 _)
    have hx3 : Ext wx w3 := ext_grown (show Ext wx w2 by (repeat (first | exact Ext.refl _ | assumption | apply Ext.alloc | apply Ext.drew | apply Ext.drewN | (refine Ext.trans ?_ (by assumption))))) hg3 (fun q hq => (hs5.lt q hq).1)
    obtain ⟨A3, c3, rfl⟩ := ownsRow_slice hown3
    have f3 := HB.out w3 (by (repeat (first | exact Ext.refl _ | assumption | apply Ext.alloc | apply Ext.drew | apply Ext.drewN | (refine Ext.trans ?_ (by assumption)))))
    go_wp2
    refine bodyPost_ret (v := .agg #[.slice A3 l.length c3]) (by simp [results, Tryd.results32, go_sem, f3]) rfl ⟨A3, c3, rfl, ?_, by (repeat (first | exact Ext.refl _ | assumption | apply Ext.alloc | apply Ext.drew | apply Ext.drewN | (refine Ext.setCell ?_ (by simp; done) _) | (refine Ext.setCell ?_ (by simp; omega) _) | (refine Ext.trans ?_ (by assumption))))⟩
    have hlen : l.length - m + m = (startL l m).length := by rw [startL_length]; omega
    have hown4 : w3.ownsRow wx.heap.size 27 2 (.slice A3 (l.length - m + m) c3) (l.length - m + m) (flat (startL l m)) := by unfold startL; rw [flat_append]; exact hown3
    have h5 := (OwnS.of_own hown4).2
    have hzx := (show Ext ((w.alloc (.cells #[.slice (some ⟨b, off, none⟩) l.length c] 49)).alloc (.cells #[.slice none 0 0] 49)) wx by (repeat (first | exact Ext.refl _ | assumption | apply Ext.alloc | apply Ext.drew | apply Ext.drewN | (refine Ext.trans ?_ (by assumption))))).size
    simp at hzx
    exact (h5.set_below (p := ⟨w.heap.size + 1, 0, none⟩) (by show w.heap.size + 1 < wx.heap.size; omega) _).more (by omega) (by rw [size_setCell]; exact Nat.le_refl _)

def RetR (T : TypeId) (x : List (Int × Int)) (w : World) (e : Ending) (w' : World) : Prop := ∃ A' c', e = .returned (.agg #[.slice A' x.length c']) ∧ OwnS w' w.heap.size w'.heap.size T A' x ∧ Ext w w'

set_option maxHeartbeats 800000 in
theorem StartAt_any (A : Option Addr) (l : List (Int × Int)) (c : Nat) (k : Int) (w : World) (hp : RPts w A l) (hn : l.length ≤ 1048576) (hc : l.length ≤ c) :
    Calls Tryd.prog 32 #[.agg #[.slice A l.length c], .int .i64 k] w (RetR 27 (startV l k) w) := by
  cases hk : hasC l k
  · have HV := hide (show startV l k = [] by simp [startV, hk])
    have HB : Hid (∀ w', Ext ((w.alloc (.cells #[.slice A l.length c] 49)).alloc (.cells #[.slice none 0 0] 49)) w' → w'.cell? ⟨w.heap.size, 0, none⟩ = some (.slice A l.length c) ∧ w.heap.size < w'.heap.size ∧ w'.cell? ⟨w.heap.size + 1, 0, none⟩ = some (.slice none 0 0) ∧ w'.frozen? ⟨w.heap.size + 1, 0, none⟩ = false ∧ w.heap.size + 1 < w'.heap.size) := fun w' hx => by
      and_intros <;> (first | (have hz := hx.size; simp at hz; omega) | ((first | rw [hx.cells _ _ (by first | (simp; done) | (simp; omega))] | rw [hx.frozens _ _ (by first | (simp; done) | (simp; omega))]); (first | (simp [go_sem]; done) | (simp [go_sem, World.cell?_alloc_past]; done) | (simp [go_sem, World.frozen?]; done))))
    go_enter Tryd.func32, Tryd.ntmps32
    go_wp2_with (go_at_call 55; refine (hasCorner_any _ _ _ _ _ (hp.ext (by (repeat (first | exact Ext.refl _ | assumption | apply Ext.alloc | apply Ext.drew | apply Ext.drewN | (refine Ext.trans ?_ (by assumption)))))) hn).mono ?_; rintro e w1 ⟨rfl, hb1⟩; have f3 := HB.out w1 (by (repeat (first | exact Ext.refl _ | assumption | apply Ext.alloc | apply Ext.drew | apply Ext.drewN | (refine Ext.trans ?_ (by assumption))))))
    exact bodyPost_ret (v := .agg #[.slice none 0 0]) (by simp [results, Tryd.results32, go_sem, f3]) rfl ⟨none, 0, by rw [HV.out]; rfl, by rw [HV.out]; exact OwnS.nil, by (repeat (first | exact Ext.refl _ | assumption | apply Ext.alloc | apply Ext.drew | apply Ext.drewN | (refine Ext.setCell ?_ (by simp; done) _) | (refine Ext.setCell ?_ (by simp; omega) _) | (refine Ext.trans ?_ (by assumption))))⟩
  · obtain ⟨m, rfl, hm, hr⟩ := hasC_at hk
    obtain ⟨b, off, rfl⟩ := hp.some_ (by omega)
    refine (StartAt_true b off l c m w hp hn hc hm hk).mono ?_
    rintro e w' ⟨A', c', rfl, ho, hx⟩
    have HV : startV l (m : Int) = startL l m := by simp [startV, hk]
    exact ⟨A', c', by rw [HV, startL_length], by rw [HV]; exact ho, hx⟩

end Go.Proofs.YtkdhgngpapfkdaaDoor
