/- The walk of FnExactParseUint. -/
import Derived.Test.YtkdhgngpapfkdaaParse
namespace Go.Proofs.Ytkdhgngpapfkdaa
open Go.RowKit

theorem parseV_two (s : ByteArray) : ∃ (a : Int) (b : Bool), parseV s = .tuple #[.int .i64 a, .bool b] := by
  unfold parseV
  split
  · exact ⟨_, _, rfl⟩
  · exact ⟨_, _, rfl⟩

set_option maxRecDepth 100000 in
set_option maxHeartbeats 800000 in
theorem parseUint_walk (s : ByteArray) (w : World) :
    Calls Try.prog 3 #[.string s] w fun e w' => e = .returned (.bool true) ∧ Below w.heap.size w w' := by
  obtain ⟨a, b, hv⟩ := parseV_two s
  by_cases hbig : (1048576 : Int) < (s.size : Int)
  · go_enter Try.func3, Try.ntmps3
    go_wp2
    go_ret
    exact ⟨rfl, Ext.below (by (repeat (first | exact Ext.refl _ | assumption | apply Ext.alloc | apply Ext.drew | apply Ext.drewN | (refine Ext.trans ?_ (by assumption)))))⟩
  · go_enter Try.func3, Try.ntmps3
    go_wp2_with (first
      | (go_at_call 8; refine (sParseUint_any _ _).mono ?_; rw [hv]; rintro e w1 ⟨rfl, hb1⟩)
      | (go_at_call 9; refine (ParseUint_any _ _).mono ?_; rw [hv]; rintro e w2 ⟨rfl, hb2⟩))
    go_ret
    exact ⟨rfl, Ext.below (by (repeat (first | exact Ext.refl _ | assumption | apply Ext.alloc | apply Ext.drew | apply Ext.drewN | (refine Ext.trans ?_ (by assumption)))))⟩

end Go.Proofs.Ytkdhgngpapfkdaa
