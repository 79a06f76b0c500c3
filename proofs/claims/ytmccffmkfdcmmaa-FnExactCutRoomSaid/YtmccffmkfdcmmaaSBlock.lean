/-
  Contract: the reference's BlockingWall.
-/
import Derived.Test.YtmccffmkfdcmmaaBlock
namespace Go.Proofs.Ytmccffmkfdcmmaa
open Go.RowKit

theorem sIsIn_at (A : Option Addr) (l : List (Int × Int)) (c : Nat) (px py : Int) (v : Bool) (w : World) (hp : RPts w A l) (hn : l.length ≤ 1048576) (hv : isInV l px py = v) :
    Calls Try.prog 54 #[.agg #[.slice A l.length c], .agg #[.int .i64 px, .int .i64 py]] w fun e w' => e = .returned (.bool v) ∧ Ext w w' := by
  subst hv
  exact sIsIn_any A l c px py w hp hn

/-- whether a line crosses wall k, as the reference asks it -/
def crsS (l : List (Int × Int)) (ax ay bx by_ : Int) (k : Nat) : Bool := doCrossV ax ay bx by_ (gx l k) (gy l k) (gx l (nx l k)) (gy l (nx l k))
theorem blockV_in {l : List (Int × Int)} {ax ay bx by_ : Int} (ha : isInV l ax ay = true) (hb : isInV l bx by_ = true) : blockV l ax ay bx by_ = firstP (crsS l ax ay bx by_) 0 l.length := by
  obtain ⟨pa, hr, _⟩ := isIn_iff.1 ha
  obtain ⟨pb, _, _⟩ := isIn_iff.1 hb
  unfold blockV
  cases hs : (ax == bx && ay == by_)
  · rw [if_neg (fun h => by rcases h with h | h | h; cases h; (rw [ha] at h; cases h); (rw [hb] at h; cases h))]
    have key : ∀ d k, k + d ≤ l.length → firstP (crsE l ax ay bx by_) k d = firstP (crsS l ax ay bx by_) k d := by
      intro d
      induction d with
      | zero => intro k _; rfl
      | succ d ih =>
        intro k hk
        unfold firstP
        have e : crsS l ax ay bx by_ k = crsE l ax ay bx by_ k := cross_room hr pa pb hs (by omega)
        rw [e, ih (k + 1) (by omega)]
    exact key l.length 0 (by omega)
  · rw [if_pos (.inl rfl)]
    exact (firstP_no _ l.length 0 (fun j _ _ => cross_same hs j)).symm

end Go.Proofs.Ytmccffmkfdcmmaa
