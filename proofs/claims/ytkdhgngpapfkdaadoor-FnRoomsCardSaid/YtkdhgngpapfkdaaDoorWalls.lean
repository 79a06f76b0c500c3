/-
  Contract: the walls of a list of corners.
-/
import Derived.Test.YtkdhgngpapfkdaaDoorHelp
import Derived.Test.YtkdhgngpapfkdaaDoorJ1
namespace Go.Proofs.YtkdhgngpapfkdaaDoor
open Go.RowKit

theorem info_iwall : (Tryd.prog.info? 57).map (fun i => (i.zero, i.size, i.bytes)) = some (some (.agg #[.int .i64 0, .int .i64 0, .int .i64 0, .int .i64 0]), 4, 32) := by kernel_rfl

def nx (l : List (Int × Int)) (k : Nat) : Nat := (k + 1) % l.length

/-- the cells of the first n walls -/
def flatW (l : List (Int × Int)) (n : Nat) : List Value := (List.range n).flatMap fun k => [.int .i64 (gx l k), .int .i64 (gy l k), .int .i64 (gx l (nx l k)), .int .i64 (gy l (nx l k))]

theorem flatW_succ (l : List (Int × Int)) (n : Nat) : flatW l (n + 1) = flatW l n ++ [.int .i64 (gx l n), .int .i64 (gy l n), .int .i64 (gx l (nx l n)), .int .i64 (gy l (nx l n))] := by
  unfold flatW
  rw [List.range_succ, List.flatMap_append]
  simp

theorem flatW_length (l : List (Int × Int)) (n : Nat) : (flatW l n).length = n * 4 := by
  induction n with
  | zero => rfl
  | succ n ih => rw [flatW_succ, List.length_append, ih]; simp; omega

theorem flatW_get (l : List (Int × Int)) (n k : Nat) (h : k < n) : (flatW l n)[k * 4]? = some (.int .i64 (gx l k)) ∧ (flatW l n)[k * 4 + 1]? = some (.int .i64 (gy l k)) ∧ (flatW l n)[k * 4 + 2]? = some (.int .i64 (gx l (nx l k))) ∧ (flatW l n)[k * 4 + 3]? = some (.int .i64 (gy l (nx l k))) := by
  induction n with
  | zero => omega
  | succ n ih =>
    rw [flatW_succ]
    by_cases e : k = n
    · subst e
      rw [List.getElem?_append_right (by rw [flatW_length]; omega), List.getElem?_append_right (by rw [flatW_length]; omega), List.getElem?_append_right (by rw [flatW_length]; omega), List.getElem?_append_right (by rw [flatW_length]; omega), flatW_length]
      simp
    · obtain ⟨a, b, c, d⟩ := ih (by omega)
      rw [List.getElem?_append_left (by rw [flatW_length]; omega), List.getElem?_append_left (by rw [flatW_length]; omega), List.getElem?_append_left (by rw [flatW_length]; omega), List.getElem?_append_left (by rw [flatW_length]; omega)]
      exact ⟨a, b, c, d⟩

/-- A slice of the walls of l, in a block of its own. -/
def RW (w : World) (A : Option Addr) (l : List (Int × Int)) : Prop :=
  ∀ k, k < l.length → ∃ g, A = some ⟨g, 0, none⟩ ∧ g < w.heap.size ∧ w.cell? ⟨g, k * 4, none⟩ = some (.int .i64 (gx l k)) ∧ w.cell? ⟨g, k * 4 + 1, none⟩ = some (.int .i64 (gy l k)) ∧
    w.cell? ⟨g, k * 4 + 2, none⟩ = some (.int .i64 (gx l (nx l k))) ∧ w.cell? ⟨g, k * 4 + 3, none⟩ = some (.int .i64 (gy l (nx l k)))

theorem RW.ext {w w' : World} {A : Option Addr} {l : List (Int × Int)} (h : RW w A l) (hx : Ext w w') : RW w' A l := fun k hk =>
  let ⟨g, e, h0, h1, h2, h3, h4⟩ := h k hk
  ⟨g, e, Nat.lt_of_lt_of_le h0 hx.size, (hx.cells _ _ h0).trans h1, (hx.cells _ _ h0).trans h2, (hx.cells _ _ h0).trans h3, (hx.cells _ _ h0).trans h4⟩

theorem RW.of_own {w : World} {base e : Nat} {A : Option Addr} {c : Nat} {l : List (Int × Int)} (h : w.ownsRow base e 4 (.slice A l.length c) l.length (flatW l l.length)) : RW w A l := by
  intro k hk
  rcases h.2 with ⟨h1, h2⟩ | ⟨g, cap, cur, hv, hb, hh, _⟩
  · omega
  · injection hv with hA _ hc
    subst hA hc
    obtain ⟨a, b, c, d⟩ := flatW_get l l.length k hk
    have hlt : g < w.heap.size := by
      rcases Nat.lt_or_ge g w.heap.size with h2 | h2
      · exact h2
      · rw [Array.getElem?_eq_none h2] at hh; cases hh
    exact ⟨g, rfl, hlt, (h.cellAt _ (by omega)).trans a, (h.cellAt _ (by omega)).trans b, (h.cellAt _ (by omega)).trans c, (h.cellAt _ (by omega)).trans d⟩

set_option maxRecDepth 100000 in
theorem wallsOf_any (A : Option Addr) (l : List (Int × Int)) (c : Nat) (w : World) (hp : RPts w A l) (hn : l.length ≤ 1048576) :
    Calls Tryd.prog 56 #[.slice A l.length c] w fun e w' => ∃ A' c', e = .returned (.slice A' l.length c') ∧ RW w' A' l ∧ Ext w w' := by
  obtain ⟨i0, hI, hZ, hS, hY⟩ := info_parts info_iwall
  go_enter Tryd.func56, Tryd.ntmps56
  go_wp2
  go_loopw [3, 9] (fun out i wr => ∃ k : Nat, k ≤ l.length ∧ i = .int .i64 k ∧ Ext w wr ∧ wr.ownsRow w.heap.size 57 4 out k (flatW l k)) (fun _ i _ => l.length - (intOf i).toNat)
  case atStart => exact ⟨0, Nat.zero_le _, rfl, (Ext.refl w).alloc _, rfl, .inr ⟨w.heap.size, 0, #[], rfl, Nat.le_refl _, heap_alloc_new w _, Nat.le_refl _, by unfold maxLen; omega, rfl, rfl⟩⟩
  case round =>
    obtain ⟨k, hk, rfl, hbl, hown⟩ := hrel
    rename_i out _
    by_cases hlt : k < l.length
    · have hnx : nx l k < l.length := Nat.mod_lt _ (by omega)
      obtain ⟨b, off, rfl, hz1, hx, hy⟩ := (hp.ext hbl).at_ hlt
      obtain ⟨b2, off2, hA2, hz2, hx2, hy2⟩ := (hp.ext hbl).at_ hnx
      injection hA2 with hA2
      injection hA2 with e1 e2 _
      subst e1 e2
      clear hz2
      unfold nx at hnx hx2 hy2
      go_wp2
      clear hx hy
      obtain ⟨q1, q2, q3, q4, q5⟩ := idx_facts ((k : Int) + 1) (k + 1) l.length (by omega) (by omega) (by omega)
      have q6 : l ≠ [] := fun e => by rw [e] at hlt; simp at hlt
      refine wp_flow_tail 12 (by kernel_rfl) (by kernel_rfl) (by kernel_rfl) (by kernel_rfl) (fun u => ⟨#[_, _, _, _, _, _, _, _, _, _, _, _, _, _, u 0, u 1, u 2, u 3, u 4, u 5, u 6, u 7, u 8, u 9, u 10, u 11, _, _, _], _⟩) (fun i => List.getD [_, _, _, _, _, _, _, _, _, _, _, _] i undef) [is ?v1_0, is ?v1_1, is ?v1_2, is ?v1_3, is ?v1_4, is ?v1_5, is ?v1_6, is ?v1_7, is ?v1_8, is ?v1_9, is ?v1_10, (SLn (wr.heap.size + 1) [.int .i64 (gx l k), .int .i64 (gy l k), .int .i64 (gx l ((k + 1) % l.length)), .int .i64 (gy l ((k + 1) % l.length))] 1)] (fun w' => w'.cell? ⟨wr.heap.size, 0, none⟩ = some (.int .i64 (gx l k)) ∧ w'.cell? ⟨wr.heap.size, 1, none⟩ = some (.int .i64 (gy l k)) ∧ w'.cell? ⟨b, off + (k + 1) % l.length * 2, none⟩ = some (.int .i64 (gx l ((k + 1) % l.length))) ∧ w'.cell? ⟨b, off + (k + 1) % l.length * 2 + 1, none⟩ = some (.int .i64 (gy l ((k + 1) % l.length))) ∧ wr.heap.size + 1 ≤ w'.heap.size) _ rfl ?hC1 ?hs1 ?hV1 ?fin1
      case hC1 => (intro w' hx; and_intros <;> (first | (refine (Eq.trans (hx.cells _ _ ?_) ?_) <;> first | assumption | omega | (simp; done) | (simp; omega) | (simp [go_sem, World.cell?_alloc_past, *]; done)) | (have hz := hx.size; first | omega | (simp at hz; omega))))
      case hs1 =>
        repeat' (first
          | exact FSteps.nil
          | refine FSteps.cons ?_ ?_
          | (refine FStep.off_ _ _ _ rfl rfl ?_ (fun _ => rfl) ?_; (focus (intro u w hd; simp [vOf, is, Region.binds] at hd; simp [hd])); (intro w'; exact rfl); done)
          | ((first
              | refine FStep.plain rfl ?_
              | (refine FStep.on_ _ _ _ rfl rfl ?_ ?_; (focus (intro u w hd; simp [vOf, is, Region.binds] at hd; simp [hd]))))
             intro u w hW hC hd K hK
             (try simp [vOf, is, Region.binds] at hd)
             simp only [upd, Nat.reduceEqDiff, if_true, if_false] at hK
             (try simp only [hd] at hK)
             go_simp
             (first
               | (refine hK _ _ ?_ ?_; (first | exact rfl | exact SLn_new _ _ hC.2.2.2.2); (repeat (first | exact Ext.refl _ | assumption | apply Ext.alloc | apply Ext.drew | apply Ext.drewN | (refine Ext.trans ?_ (by assumption))))))))
      case hV1 => (simp only [List.forall_mem_cons]; simp [stable_is, SLn_stable])
      case fin1 =>
        intro u w2 hW2 hC2 hd
        simp only [AllV, is] at hd
        have hs11 := hd.2.2.2.2.2.2.2.2.2.2.2.1
        simp only [List.drop_succ_cons, List.drop_zero]
        simp only [hd]
        clear hd
        obtain ⟨b1, hu, hb1, hb1', hcells⟩ := hs11
        have hx2w : Ext wr w2 := ((Ext.refl wr).alloc _).trans hW2
        have hown2 := ownsRow_ext hown hx2w
        simp only [hu]
        refine wpList_app _ rfl (.tmp 14) (.tmp 25) _ rfl w.heap.size 57 i0 _ 4 32 Tryd.underlying80 hI hZ hS hY rfl (by omega) u3 k (flatW l k) rfl hown2 ⟨b1, 0, none⟩ 1 1 _ rfl rfl (SLn.addr hcells) (by simp [Value.oneCell']) (by unfold maxLen; omega) (by omega) (Nat.le_trans hbl.size hx2w.size) ?_
        intro v' w3 hown3 hg3 _
        have hx3 : Ext w w3 := ext_grown (hbl.trans hx2w) hg3 (fun q hq => (hown2.lt q hq).1)
        clear hC2 hcells hx2 hy2 q1 q2 q3 q4 q5 hown hown2 hg3
        go_wp2
        go_roundw
        case rel => exact ⟨k + 1, by omega, by go_num, hx3, by rw [flatW_succ]; exact hown3⟩
        case measure => simp [intOf]; omega
    · have e : k = l.length := by omega
      have E := hide e
      clear e
      rcases hown.2 with ⟨rfl, h0⟩ | ⟨g, cap, cur, rfl, hr⟩
      · go_wp2
        go_ret
        exact ⟨none, 0, by rw [← E.out, h0]; rfl, fun j hj => by rw [← E.out, h0] at hj; omega, hbl⟩
      · go_wp2
        go_ret
        rw [E.out] at hown
        exact ⟨some ⟨g, 0, none⟩, cap, by rw [E.out]; rfl, RW.of_own hown, hbl⟩

end Go.Proofs.YtkdhgngpapfkdaaDoor
