/-
  Contracts: the laws' own helpers for points and rooms: size, copy, compare, mark.
-/
import Derived.Test.YtnomiefjefopbaaPt
import Derived.Test.YtnomiefjefopbaaOwn
import Derived.Test.YtnomiefjefopbaaFlow
namespace Go.Proofs.Ytnomiefjefopbaa
open Go.RowKit

theorem info_ipt : (Try.prog.info? 25).map (fun i => (i.zero, i.size, i.bytes)) = some (some (.agg #[.int .i64 0, .int .i64 0]), 2, 16) := by kernel_rfl

theorem take_set_rep (l : List (Int × Int)) (k : Nat) (h : k < l.length) : l.take (k + 1) ++ List.replicate (l.length - (k + 1)) (0, 0) = (l.take k ++ List.replicate (l.length - k) (0, 0)).set k (gx l k, gy l k) := by
  have e : l.length - k = (l.length - (k + 1)) + 1 := by omega
  rw [List.set_append_right _ _ (by simp; omega), List.length_take, Nat.min_eq_left (by omega), Nat.sub_self, e, List.replicate_succ, List.set_cons_zero, List.take_succ_eq_append_getElem h]
  have hg : (gx l k, gy l k) = l[k] := by
    unfold gx gy
    rw [List.getD_eq_getElem?_getD, List.getElem?_eq_getElem h]
    rfl
  rw [hg, List.append_assoc]
  rfl

def samePt (a b c d : Int) : Bool := a == c && b == d

def eqPts (a b : List (Int × Int)) : Bool := decide (a = b)

theorem gxy_ext (a b : List (Int × Int)) (hl : a.length = b.length) (h : ∀ k, k < a.length → gx a k = gx b k ∧ gy a k = gy b k) : a = b := by
  refine List.ext_getElem hl fun k h1 h2 => ?_
  have := h k h1
  unfold gx gy at this
  simp only [List.getD_eq_getElem?_getD, List.getElem?_eq_getElem h1, List.getElem?_eq_getElem h2, Option.getD_some] at this
  exact Prod.ext this.1 this.2

end Go.Proofs.Ytnomiefjefopbaa
