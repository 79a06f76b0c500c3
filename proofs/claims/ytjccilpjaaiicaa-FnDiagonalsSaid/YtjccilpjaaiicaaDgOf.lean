/-
  Contracts: DiagonalsOf, the program's and the reference's: rows of two.
-/
import Derived.Test.YtjccilpjaaiicaaJ6
import Derived.Test.YtjccilpjaaiicaaDiagP
namespace Go.Proofs.Ytjccilpjaaiicaa
open Go.RowKit

/-- of the corners below k those behind i that make a diagonal with i -/
def dgRow (l : List (Int × Int)) (i k : Nat) : List (Int × Int) := ((List.range k).filter (fun j => decide (i < j) && dgN l i j)).map fun (j : Nat) => ((i : Int), (j : Int))
/-- the diagonals whose first corner is below i -/
def dgTo (l : List (Int × Int)) : Nat → List (Int × Int)
  | 0 => []
  | i + 1 => dgTo l i ++ dgRow l i l.length
/-- DiagonalsOf, as both texts give it -/
def dgV (l : List (Int × Int)) : List (Int × Int) := if roomB l = true then dgTo l l.length else []

theorem dgRow_start (l : List (Int × Int)) (i : Nat) : dgRow l i (i + 1) = [] := by
  unfold dgRow
  rw [List.map_eq_nil_iff, List.filter_eq_nil_iff]
  intro j hj
  rw [List.mem_range] at hj
  simp
  intro h
  omega
theorem dgRow_succ (l : List (Int × Int)) {i k : Nat} (h : i < k) : dgRow l i (k + 1) = if dgN l i k = true then dgRow l i k ++ [((i : Int), (k : Int))] else dgRow l i k := by
  unfold dgRow
  rw [List.range_succ, List.filter_append, List.map_append]
  cases hd : dgN l i k <;> simp [hd, h]
theorem dgRow_le (l : List (Int × Int)) (i k : Nat) : (dgRow l i k).length ≤ k := by
  unfold dgRow
  rw [List.length_map]
  have := List.length_filter_le (fun j => decide (i < j) && dgN l i j) (List.range k)
  rwa [List.length_range] at this
theorem dgTo_le (l : List (Int × Int)) : ∀ i, (dgTo l i).length ≤ i * l.length
  | 0 => by simp [dgTo]
  | i + 1 => by
    have h1 := dgTo_le l i
    have h2 := dgRow_le l i l.length
    rw [dgTo, List.length_append, Nat.succ_mul]
    omega
theorem dgTo_bd {l : List (Int × Int)} (h10 : l.length ≤ 10) {i : Nat} (hi : i ≤ l.length) : (dgTo l i).length ≤ 100 := by
  have h1 := dgTo_le l i
  have h2 : i * l.length ≤ 10 * 10 := Nat.mul_le_mul (by omega) h10
  omega
theorem dgV_le (l : List (Int × Int)) : (dgV l).length ≤ 1048576 := by
  unfold dgV
  split
  · rename_i h
    have := dgTo_bd (roomB_fine h).1.2 (Nat.le_refl l.length)
    omega
  · simp

/-- the row of rows under way -/
def DSt (w : World) (base : Nat) (v : Value) (L : List (Int × Int)) : Prop :=
  ∃ bs, w.ownsRow base 33 1 v L.length (rowV bs) ∧ Ins w base w.heap.size bs L ∧ ∀ g, v.ownBlock = some g → g ∉ bs
theorem DSt.ext {w w' : World} {base : Nat} {v : Value} {L : List (Int × Int)} (h : DSt w base v L) (hx : Ext w w') : DSt w' base v L := by
  obtain ⟨bs, h1, h2, h3⟩ := h
  exact ⟨bs, ownsRow_ext h1 hx, (h2.ext hx).more (Nat.le_refl _) hx.size, h3⟩
theorem DSt.new (w : World) (base : Nat) (h : base ≤ w.heap.size) : DSt (w.alloc (.cells #[] 33)) base (.slice (some ⟨w.heap.size, 0, none⟩) 0 0) [] :=
  ⟨[], ⟨rfl, .inr ⟨w.heap.size, 0, #[], rfl, h, heap_alloc_new w _, Nat.le_refl _, by unfold maxLen; omega, rfl, rfl⟩⟩, Ins.nil, fun _ _ hc => by cases hc⟩
theorem OwnI.block2 (w : World) (x y : Int) : OwnI (w.alloc (.cells #[.int .i64 x, .int .i64 y] 3)) w.heap.size (w.heap.size + 1) 3 (some ⟨w.heap.size, 0, none⟩) [x, y] := fun _ =>
  ⟨w.heap.size, _, rfl, Nat.le_refl _, Nat.lt_succ_self _, heap_alloc_new w _, Nat.le_refl _, fun k hk => match k, hk with | 0, _ => rfl | 1, _ => rfl | k + 2, hk => absurd hk (by simp)⟩
/-- one more pair -/
theorem DSt.snoc {w w1 w3 : World} {base : Nat} {v v' : Value} {L : List (Int × Int)} {x y : Int} {bs : List Nat} (h1 : w.ownsRow base 33 1 v L.length (rowV bs)) (h2 : Ins w base w.heap.size bs L) (h3 : ∀ g, v.ownBlock = some g → g ∉ bs) (hx : Ext w w1) (hb : base ≤ w.heap.size)
    (hown : w3.ownsRow base 33 1 v' (L.length + 1) (rowV bs ++ [sl2 w1.heap.size]))
    (hg : ((w1.alloc (.cells #[.int .i64 x, .int .i64 y] 3)).alloc (.cells #[sl2 w1.heap.size] 33)).grownBy w3 v.ownBlock)
    (hk : v'.ownBlock = v.ownBlock ∨ v'.ownBlock = some ((w1.alloc (.cells #[.int .i64 x, .int .i64 y] 3)).alloc (.cells #[sl2 w1.heap.size] 33)).heap.size) : DSt w3 base v' (L ++ [(x, y)]) := by
  have hsz : ((w1.alloc (.cells #[.int .i64 x, .int .i64 y] 3)).alloc (.cells #[sl2 w1.heap.size] 33)).heap.size = w1.heap.size + 2 := by simp
  have hs3 : w1.heap.size + 2 ≤ w3.heap.size := by have := hg.size; omega
  have hs1 := hx.size
  have hE : Ext w ((w1.alloc (.cells #[.int .i64 x, .int .i64 y] 3)).alloc (.cells #[sl2 w1.heap.size] 33)) := by (repeat (first | exact Ext.refl _ | assumption | apply Ext.alloc | apply Ext.drew | apply Ext.drewN | (refine Ext.trans ?_ (by assumption))))
  have hlt := h2.lt
  have hvo : ∀ g, v.ownBlock = some g → g < w.heap.size := fun g hg => (h1.lt g hg).2
  refine ⟨bs ++ [w1.heap.size], ?_, ?_, ?_⟩
  · rw [rowV_append, List.length_append]
    exact hown
  · refine Ins.snoc (((h2.ext hE).kept (w' := w3) (fun b hb => hg.block b (by have := hlt b hb; omega) (fun e => h3 b e.symm hb))).more (Nat.le_refl _) (by omega)) (by omega) (by omega) (fun hc => by have := hlt _ hc; omega) ?_
    refine ownI_same (w := (w1.alloc (.cells #[.int .i64 x, .int .i64 y] 3)).alloc (.cells #[sl2 w1.heap.size] 33)) ((OwnI.block2 w1 x y).ext (by (repeat (first | exact Ext.refl _ | assumption | apply Ext.alloc | apply Ext.drew | apply Ext.drewN | (refine Ext.trans ?_ (by assumption)))))) (hg.block _ (by omega) (fun e => by have := hvo _ e.symm; omega))
  · intro g hgo hc
    rw [List.mem_append, List.mem_singleton] at hc
    rw [hsz] at hk
    rcases hk with e | e
    · rw [e] at hgo
      rcases hc with hc | rfl
      · exact h3 g hgo hc
      · have := hvo _ hgo; omega
    · rw [e] at hgo
      injection hgo with hgo
      rcases hc with hc | rfl
      · have := hlt g hc; omega
      · omega
theorem DSt.ret {w : World} {base : Nat} {v : Value} {L : List (Int × Int)} (h : DSt w base v L) : ∃ A c, v = .slice A L.length c ∧ OwnR w base w.heap.size 33 A L := by
  obtain ⟨bs, h1, h2, h3⟩ := h
  obtain ⟨A, c, rfl⟩ := ownsRow_slice h1
  exact ⟨A, c, rfl, (OwnR.of_own h1 h2 h3).2⟩
theorem news_row (w : World) (x y : Int) : ∀ j u, [sl2 w.heap.size][j]? = some u → ((w.alloc (.cells #[.int .i64 x, .int .i64 y] 3)).alloc (.cells #[sl2 w.heap.size] 33)).cell? ((⟨w.heap.size + 1, 0, none⟩ : Addr).add j) = some u := by
  have h := news_alloc (w.alloc (.cells #[.int .i64 x, .int .i64 y] 3)) [sl2 w.heap.size] 33
  simpa using h


set_option maxRecDepth 100000 in
set_option maxHeartbeats 3200000 in
theorem DiagonalsOf_any (A : Option Addr) (l : List (Int × Int)) (c : Nat) (w : World) (hp : RPts w A l) (hn : l.length ≤ 1048576) :
    Calls Try.prog 15 #[.agg #[.slice A l.length c]] w (RetR2 33 (dgV l) w) := by
  obtain ⟨i0, hI, hZ, hS, hY⟩ := info_parts info_ints
  have HB : Hid (∀ w', Ext (w.alloc (.cells #[.slice A l.length c] 26)) w' → w'.cell? ⟨w.heap.size, 0, none⟩ = some (.slice A l.length c) ∧ w.heap.size < w'.heap.size) := fun w' hx => by
    and_intros <;> (first | (have hz := hx.size; simp at hz; omega) | ((first | rw [hx.cells _ _ (by first | (simp; done) | (simp; omega))] | rw [hx.frozens _ _ (by first | (simp; done) | (simp; omega))]); (first | (simp [go_sem]; done) | (simp [go_sem, World.cell?_alloc_past]; done) | (simp [go_sem, World.frozen?]; done))))
  cases hr : roomB l
  · have HV := hide (show dgV l = [] by simp [dgV, hr])
    go_enter Try.func15, Try.ntmps15
    go_wp2_with (go_at_call 17; refine (RoomOk_any _ _ _ _ (hp.ext (by (repeat (first | exact Ext.refl _ | assumption | apply Ext.alloc | apply Ext.drew | apply Ext.drewN | (refine Ext.trans ?_ (by assumption)))))) hn).mono ?_; rw [hr]; rintro e w1 ⟨rfl, hb1⟩)
    go_ret
    exact ⟨none, 0, by rw [HV.out]; rfl, by rw [HV.out]; exact OwnR.nil, by (repeat (first | exact Ext.refl _ | assumption | apply Ext.alloc | apply Ext.drew | apply Ext.drewN | (refine Ext.trans ?_ (by assumption))))⟩
  · have HV := hide (show dgV l = dgTo l l.length by simp [dgV, hr])
    have h10 := (roomB_fine hr).1.2
    have HR := hide hr
    go_enter Try.func15, Try.ntmps15
    go_wp2_with (go_at_call 17; refine (RoomOk_any _ _ _ _ (hp.ext (by (repeat (first | exact Ext.refl _ | assumption | apply Ext.alloc | apply Ext.drew | apply Ext.drewN | (refine Ext.trans ?_ (by assumption)))))) hn).mono ?_; rw [hr]; rintro e wa ⟨rfl, hb⟩; have hcc := HB.out wa (by (repeat (first | exact Ext.refl _ | assumption | apply Ext.alloc | apply Ext.drew | apply Ext.drewN | (refine Ext.trans ?_ (by assumption))))))
    have hxa : Ext (w.alloc (.cells #[.slice A l.length c] 26)) (wa.alloc (.cells #[] 33)) := by (repeat (first | exact Ext.refl _ | assumption | apply Ext.alloc | apply Ext.drew | apply Ext.drewN | (refine Ext.trans ?_ (by assumption))))
    have hst0 : DSt (wa.alloc (.cells #[] 33)) (w.heap.size + 1) (.slice (some ⟨wa.heap.size, 0, none⟩) 0 0) (dgTo l 0) := DSt.new wa _ (by have := hb.size; simpa using this)
    clear hcc hr
    go_loopw [3, 13] (fun out ix wr => ∃ (i : Nat) (o : Value), i ≤ l.length ∧ ix = .int .i64 i ∧ o = out ∧ Ext (w.alloc (.cells #[.slice A l.length c] 26)) wr ∧ DSt wr (w.heap.size + 1) o (dgTo l i)) (fun _ ix _ => l.length - (intOf ix).toNat)
    case atStart => exact ⟨0, _, Nat.zero_le _, rfl, rfl, hxa, hst0⟩
    case round =>
      obtain ⟨i, o, hi, rfl, ho, hbl, hsto⟩ := hrel
      subst ho
      obtain ⟨wq, rfl⟩ : ∃ wq : World, wq = wr := ⟨_, rfl⟩
      clear hst0
      have hcb := HB.out wq hbl
      have hle1 := dgTo_bd h10 hi
      have hsq := hbl.size
      simp at hsq
      by_cases hil : i < l.length
      · have q2 : (i : Int) < (l.length : Int) := by omega
        go_wp2
        go_loopw [3, 5] (fun out kx wr => ∃ (k : Nat) (o : Value), k ≤ l.length ∧ i < k ∧ kx = .int .i64 k ∧ o = out ∧ Ext (w.alloc (.cells #[.slice A l.length c] 26)) wr ∧ DSt wr (w.heap.size + 1) o (dgTo l i ++ dgRow l i k)) (fun _ kx _ => l.length - (intOf kx).toNat)
        case atStart => exact ⟨i + 1, _, by omega, by omega, by go_num, rfl, by (repeat (first | exact Ext.refl _ | assumption | apply Ext.alloc | apply Ext.drew | apply Ext.drewN | (refine Ext.trans ?_ (by assumption)))), by rw [dgRow_start, List.append_nil]; exact hsto⟩
        case round =>
          obtain ⟨k, o, hk, hik, rfl, ho, hbi, hst⟩ := hrel
          subst ho
          obtain ⟨wi, rfl⟩ : ∃ wi : World, wi = wr := ⟨_, rfl⟩
          have fbi := HB.out wi (by (repeat (first | exact Ext.refl _ | assumption | apply Ext.alloc | apply Ext.drew | apply Ext.drewN | (refine Ext.trans ?_ (by assumption)))))
          have hle2 := dgRow_le l i k
          have hsi := hbi.size
          simp at hsi
          by_cases hlt : k < l.length
          · have q3 : (k : Int) < (l.length : Int) := by omega
            have j1 : inB (i : Int) 0 ((l.length : Int) - 1) = true := by rw [inB_iff]; omega
            have j2 : inB (k : Int) 0 ((l.length : Int) - 1) = true := by rw [inB_iff]; omega
            cases hd : dgN l i k
            · have HS := hide (show dgRow l i (k + 1) = dgRow l i k by rw [dgRow_succ l hik, hd]; rfl)
              go_wp2_with (go_at_call 29; refine (diagonal_nat _ _ _ _ _ _ (hp.ext (by (repeat (first | exact Ext.refl _ | assumption | apply Ext.alloc | apply Ext.drew | apply Ext.drewN | (refine Ext.trans ?_ (by assumption)))))) HR.out hil hlt).mono ?_; rw [hd]; rintro e w1 ⟨rfl, hb1⟩)
              go_roundw
              case rel => exact ⟨k + 1, _, by omega, by omega, by go_num, rfl, by (repeat (first | exact Ext.refl _ | assumption | apply Ext.alloc | apply Ext.drew | apply Ext.drewN | (refine Ext.trans ?_ (by assumption)))), by rw [HS.out]; exact hst.ext (by (repeat (first | exact Ext.refl _ | assumption | apply Ext.alloc | apply Ext.drew | apply Ext.drewN | (refine Ext.trans ?_ (by assumption)))))⟩
              case measure => simp [intOf]; omega
            · have HS := hide (show dgRow l i (k + 1) = dgRow l i k ++ [((i : Int), (k : Int))] by rw [dgRow_succ l hik, hd]; rfl)
              obtain ⟨bs, hown, hin, hno⟩ := hst
              go_wp2_with (first | (go_at_call 29; refine (diagonal_nat _ _ _ _ _ _ (hp.ext (by (repeat (first | exact Ext.refl _ | assumption | apply Ext.alloc | apply Ext.drew | apply Ext.drewN | (refine Ext.trans ?_ (by assumption)))))) HR.out hil hlt).mono ?_; rw [hd]; rintro e w1 ⟨rfl, hb1⟩; have hsz1 := (show Ext wi w1 by (repeat (first | exact Ext.refl _ | assumption | apply Ext.alloc | apply Ext.drew | apply Ext.drewN | (refine Ext.trans ?_ (by assumption))))).size) | (at_builtin; refine wpList_app _ rfl (.tmp 29) (.tmp 33) _ rfl (w.heap.size + 1) 33 i0 _ 1 24 Try.underlying42 hI hZ hS hY rfl (by omega) _ (dgTo l i ++ dgRow l i k).length (rowV bs) (by rfl) (ownsRow_ext hown (by (repeat (first | exact Ext.refl _ | assumption | apply Ext.alloc | apply Ext.drew | apply Ext.drewN | (refine Ext.trans ?_ (by assumption)))))) ⟨w1.heap.size + 1, 0, none⟩ 1 1 [sl2 w1.heap.size] (by first | rfl | (simp; done)) rfl (news_row w1 i k) (by simp [Value.oneCell', sl2]) (by unfold maxLen; rw [List.length_append]; omega) (by rw [List.length_append]; omega) (by simp; omega) ?_; intro v' w3 hown3 hg3 hk3))
              have hx3 : Ext (w.alloc (.cells #[.slice A l.length c] 26)) w3 := ext_grown (show Ext (w.alloc (.cells #[.slice A l.length c] 26)) ((w1.alloc (.cells #[.int .i64 (i : Int), .int .i64 (k : Int)] 3)).alloc (.cells #[sl2 w1.heap.size] 33)) by (repeat (first | exact Ext.refl _ | assumption | apply Ext.alloc | apply Ext.drew | apply Ext.drewN | (refine Ext.trans ?_ (by assumption))))) hg3 (fun q hq => by have := (hown.lt q hq).1; simpa using this)
              have hst3 := DSt.snoc hown hin hno (show Ext wi w1 by (repeat (first | exact Ext.refl _ | assumption | apply Ext.alloc | apply Ext.drew | apply Ext.drewN | (refine Ext.trans ?_ (by assumption))))) (by omega) hown3 hg3 hk3
              clear hown hin hno hown3 hg3 hk3
              go_wp2
              go_roundw
              case rel => exact ⟨k + 1, _, by omega, by omega, by go_num, rfl, by (repeat (first | exact Ext.refl _ | assumption | apply Ext.alloc | apply Ext.drew | apply Ext.drewN | (refine Ext.trans ?_ (by assumption)))), by rw [HS.out, ← List.append_assoc]; exact hst3⟩
              case measure => simp [intOf]; omega
          · have e : k = l.length := by omega
            have q3 : ¬ (k : Int) < (l.length : Int) := by omega
            have E := hide e
            clear e
            go_wp2
            go_roundw
            case rel => exact ⟨i + 1, _, by omega, by go_num, rfl, by (repeat (first | exact Ext.refl _ | assumption | apply Ext.alloc | apply Ext.drew | apply Ext.drewN | (refine Ext.trans ?_ (by assumption)))), by rw [dgTo]; have h := hst; rw [E.out] at h; exact h⟩
            case measure => simp [intOf]; omega
      · have e : i = l.length := by omega
        have q2 : ¬ (i : Int) < (l.length : Int) := by omega
        obtain ⟨A', c', ho, hown⟩ := hsto.ret
        subst ho
        have E := hide e
        clear e
        go_wp2
        go_ret
        rw [E.out] at hown
        exact ⟨A', c', by rw [HV.out, E.out]; rfl, by rw [HV.out]; exact hown.more (by omega) (Nat.le_refl _), by (repeat (first | exact Ext.refl _ | assumption | apply Ext.alloc | apply Ext.drew | apply Ext.drewN | (refine Ext.trans ?_ (by assumption))))⟩

end Go.Proofs.Ytjccilpjaaiicaa
