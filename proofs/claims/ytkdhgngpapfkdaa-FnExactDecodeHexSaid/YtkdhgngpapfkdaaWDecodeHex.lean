/- The walk of FnExactDecodeHex. -/
import Derived.Test.YtkdhgngpapfkdaaUnhex
namespace Go.Proofs.Ytkdhgngpapfkdaa
open Go.RowKit

theorem decV_two (s : ByteArray) : ∃ (a : ByteArray) (b : Bool), decV s = .tuple #[.string a, .bool b] := by
  unfold decV
  split
  · exact ⟨_, _, rfl⟩
  · exact ⟨_, _, rfl⟩

set_option maxRecDepth 100000 in
set_option maxHeartbeats 800000 in
theorem decodeHex_walk (s : ByteArray) (w : World) :
    Calls Try.prog 7 #[.string s] w fun e w' => e = .returned (.bool true) ∧ Below w.heap.size w w' := by
  obtain ⟨a, b, hv⟩ := decV_two s
  by_cases hbig : (1048576 : Int) < (s.size : Int)
  · go_enter Try.func7, Try.ntmps7
    go_wp2
    go_ret
    exact ⟨rfl, Ext.below (by (repeat (first | exact Ext.refl _ | assumption | apply Ext.alloc | apply Ext.drew | apply Ext.drewN | (refine Ext.trans ?_ (by assumption)))))⟩
  · go_enter Try.func7, Try.ntmps7
    go_wp2_with (first
      | (go_at_call 20; refine (sDecodeHex_any _ _ (by omega)).mono ?_; rw [hv]; rintro e w1 ⟨rfl, hb1⟩)
      | (go_at_call 21; refine (DecodeHex_any _ _ (by omega)).mono ?_; rw [hv]; rintro e w2 ⟨rfl, hb2⟩))
    go_ret
    exact ⟨rfl, Ext.below (by (repeat (first | exact Ext.refl _ | assumption | apply Ext.alloc | apply Ext.drew | apply Ext.drewN | (refine Ext.trans ?_ (by assumption)))))⟩

end Go.Proofs.Ytkdhgngpapfkdaa
