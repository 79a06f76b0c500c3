/-
  Contracts: walls compared; WallOf with its four numbers.
-/
import Derived.Test.YtngapnmegembaaaWallOf
namespace Go.Proofs.Ytngapnmegembaaa
open Go.RowKit

theorem eqPoint_same (a b : Int) (w : World) :
    Calls Try.prog 86 #[.agg #[.int .i64 a, .int .i64 b], .agg #[.int .i64 a, .int .i64 b]] w fun e w' => e = .returned (.bool true) ∧ Ext w w' :=
  (eqPoint_any a b a b w).mono fun e w' ⟨h, hx⟩ => ⟨by rw [h]; simp [samePt], hx⟩

theorem eqWall_same (a b c d : Int) (w : World) :
    Calls Try.prog 36 #[.agg #[.int .i64 a, .int .i64 b, .int .i64 c, .int .i64 d], .agg #[.int .i64 a, .int .i64 b, .int .i64 c, .int .i64 d]] w fun e w' => e = .returned (.bool true) ∧ Ext w w' := by
  have HB : Hid (∀ w', Ext ((w.alloc (.cells #[.int .i64 a, .int .i64 b, .int .i64 c, .int .i64 d] 40)).alloc (.cells #[.int .i64 a, .int .i64 b, .int .i64 c, .int .i64 d] 40)) w' → w'.cell? ⟨w.heap.size, 0, none⟩ = some (.int .i64 a) ∧ w'.cell? ⟨w.heap.size, 1, none⟩ = some (.int .i64 b) ∧ w'.cell? ⟨w.heap.size, 2, none⟩ = some (.int .i64 c) ∧ w'.cell? ⟨w.heap.size, 3, none⟩ = some (.int .i64 d) ∧ w.heap.size < w'.heap.size ∧ w'.cell? ⟨w.heap.size + 1, 0, none⟩ = some (.int .i64 a) ∧ w'.cell? ⟨w.heap.size + 1, 1, none⟩ = some (.int .i64 b) ∧ w'.cell? ⟨w.heap.size + 1, 2, none⟩ = some (.int .i64 c) ∧ w'.cell? ⟨w.heap.size + 1, 3, none⟩ = some (.int .i64 d) ∧ w.heap.size + 1 < w'.heap.size) := fun w' hx => by
    and_intros <;> (first | (have hz := hx.size; simp at hz; omega) | ((first | rw [hx.cells _ _ (by first | (simp; done) | (simp; omega))] | rw [hx.frozens _ _ (by first | (simp; done) | (simp; omega))]); (first | (simp [go_sem]; done) | (simp [go_sem, World.cell?_alloc_past]; done) | (simp [go_sem, World.frozen?]; done))))
  go_enter Try.func36, Try.ntmps36
  go_wp2_with fail
  refine (eqPoint_same _ _ _).mono ?_
  rintro e w1 ⟨rfl, x1⟩
  have f1 := HB.out w1 (by (repeat (first | exact Ext.refl _ | assumption | apply Ext.alloc | apply Ext.drew | apply Ext.drewN | (refine Ext.trans ?_ (by assumption)))))
  go_wp2_with fail
  refine (eqPoint_same _ _ _).mono ?_
  rintro e w2 ⟨rfl, x2⟩
  go_wp2
  go_ret
  exact ⟨rfl, by (repeat (first | exact Ext.refl _ | assumption | apply Ext.alloc | apply Ext.drew | apply Ext.drewN | (refine Ext.trans ?_ (by assumption))))⟩

def wA (l : List (Int × Int)) (k : Int) : Int := if hasC l k = true then gx l k.toNat else 0
def wB (l : List (Int × Int)) (k : Int) : Int := if hasC l k = true then gy l k.toNat else 0
def wC (l : List (Int × Int)) (k : Int) : Int := if hasC l k = true then gx l (nx l k.toNat) else 0
def wD (l : List (Int × Int)) (k : Int) : Int := if hasC l k = true then gy l (nx l k.toNat) else 0
theorem WallOfV_eq (l : List (Int × Int)) (k : Int) : WallOfV l k = .agg #[.int .i64 (wA l k), .int .i64 (wB l k), .int .i64 (wC l k), .int .i64 (wD l k)] := by
  unfold WallOfV wA wB wC wD
  cases hasC l k <;> rfl

theorem WallOf4_any (A : Option Addr) (l : List (Int × Int)) (c : Nat) (k : Int) (w : World) (hp : RPts w A l) (hn : l.length ≤ 1048576) :
    Calls Try.prog 35 #[.agg #[.slice A l.length c], .int .i64 k] w fun e w' => e = .returned (.agg #[.int .i64 (wA l k), .int .i64 (wB l k), .int .i64 (wC l k), .int .i64 (wD l k)]) ∧ Ext w w' := by
  rw [← WallOfV_eq]
  exact WallOf_any A l c k w hp hn
theorem sWallOf4_any (A : Option Addr) (l : List (Int × Int)) (c : Nat) (k : Int) (w : World) (hp : RPts w A l) (hn : l.length ≤ 1048576) :
    Calls Try.prog 34 #[.agg #[.slice A l.length c], .int .i64 k] w fun e w' => e = .returned (.agg #[.int .i64 (wA l k), .int .i64 (wB l k), .int .i64 (wC l k), .int .i64 (wD l k)]) ∧ Ext w w' := by
  rw [← WallOfV_eq]
  exact sWallOf_any A l c k w hp hn

end Go.Proofs.Ytngapnmegembaaa
