/- The walk of FnExactFormatInt. -/
import Derived.Test.YtkdhgngpapfkdaaDoorFmt
import Derived.Test.YtkdhgngpapfkdaaDoorItoaLay
import Derived.Test.YtkdhgngpapfkdaaDoorJ1
namespace Go.Proofs.YtkdhgngpapfkdaaDoor
open Go.RowKit
open Go.Lib (itoa)

theorem grow_ext {w : World} {k : Nat} {os : Array Obj} : Ext w (Sort.grow (w.drewN k) os) :=
  ⟨rfl, rfl, rfl, by show w.heap.size ≤ (w.heap ++ os).size; simp, fun b hb => by show (w.heap ++ os)[b]? = w.heap[b]?; rw [Array.getElem?_append_left hb]⟩

theorem FormatInt_any (n : Int) (w : World) (h0 : -9223372036854775808 ≤ n) (h1 : n ≤ 9223372036854775807) (htab : Lib.TabIs Tryd.prog w "internal/strconv.uint64pow10" .u64 Lib.pow10Tab) :
    Calls Tryd.prog 11 #[.int .i64 n] w fun e w' => e = .returned (.string ⟨(itoa n).toArray⟩) ∧ Ext w w' := by
  go_enter Tryd.func11, Tryd.ntmps11
  go_wp2_with (go_at_call 38; refine (Tryd.strconv_Itoa n h0 h1 _ htab).mono ?_; rintro e w1 ⟨rfl, k, os, rfl⟩)
  exact bodyPost_ret (v := .string ⟨(itoa n).toArray⟩) (by simp [results, Tryd.results11, go_sem]) rfl ⟨rfl, grow_ext⟩

theorem tab_ext {w w' : World} {g : Nat} {n : String} {k : IntKind} {zs : List Int} (hg : Tryd.prog.globalNamed n = some g) (h : Lib.TabIs Tryd.prog w n k zs) (hx : Ext w w') : Lib.TabIs Tryd.prog w' n k zs := Joins.tab_stays hg h hx.below (Nat.le_refl _)

theorem wf_i64 {n : Int} (hw : (Lit.int .i64 n).wf = true) : -9223372036854775808 ≤ n ∧ n ≤ 9223372036854775807 := by
  simp [Lit.wf] at hw
  have e1 : IntKind.i64.min = -9223372036854775808 := by decide +kernel
  rw [e1] at hw
  exact hw

set_option maxRecDepth 100000 in
set_option maxHeartbeats 800000 in
theorem formatInt_walk (n : Int) (w : World) (hw : (Lit.int .i64 n).wf = true) (htab : Lib.TabIs Tryd.prog w "internal/strconv.uint64pow10" .u64 Lib.pow10Tab) :
    Calls Tryd.prog 3 #[.int .i64 n] w fun e w' => e = .returned (.bool true) ∧ Below w.heap.size w w' := by
  have hb := wf_i64 hw
  clear hw
  have HT := hide htab
  clear htab
  go_enter Tryd.func3, Tryd.ntmps3
  go_wp2_with (first
    | (go_at_call 10; refine (sFormatInt_any _ _ hb.1 hb.2).mono ?_; rintro e w1 ⟨rfl, hb1⟩)
    | (go_at_call 11; refine (FormatInt_any _ _ hb.1 hb.2 (tab_ext gTab HT.out (by (repeat (first | exact Ext.refl _ | assumption | apply Ext.alloc | apply Ext.drew | apply Ext.drewN | (refine Ext.trans ?_ (by assumption))))))).mono ?_; rintro e w2 ⟨rfl, hb2⟩))
  go_ret
  exact ⟨rfl, Ext.below (by (repeat (first | exact Ext.refl _ | assumption | apply Ext.alloc | apply Ext.drew | apply Ext.drewN | (refine Ext.trans ?_ (by assumption)))))⟩

end Go.Proofs.YtkdhgngpapfkdaaDoor
