/- The walk of FnExactSplitFields. -/
import Derived.Test.YtkdhgngpapfkdaaSplit
import Derived.Test.YtkdhgngpapfkdaaSMark
namespace Go.Proofs.Ytkdhgngpapfkdaa
open Go.RowKit

theorem splitV_le (s : ByteArray) : (splitV s).1.length ≤ 24 := by
  unfold splitV
  split
  · rename_i h; exact h.2.2
  · simp

set_option maxRecDepth 100000 in
set_option maxHeartbeats 1600000 in
theorem splitFields_walk (s : ByteArray) (w : World) :
    Calls Try.prog 5 #[.string s] w fun e w' => e = .returned (.bool true) ∧ Below w.heap.size w w' := by
  by_cases hbig : (1048576 : Int) < (s.size : Int)
  · go_enter Try.func5, Try.ntmps5
    go_wp2
    go_ret
    exact ⟨rfl, Ext.below (by (repeat (first | exact Ext.refl _ | assumption | apply Ext.alloc | apply Ext.drew | apply Ext.drewN | (refine Ext.trans ?_ (by assumption)))))⟩
  · obtain ⟨V, hV⟩ : ∃ V, V = splitV s := ⟨_, rfl⟩
    have hle : V.1.length ≤ 24 := by rw [hV]; exact splitV_le s
    obtain ⟨l, b⟩ := V
    simp only at hle
    have HV := hide hV
    clear hV
    have q1 : ((1 + l.length : Nat) : Int) = 1 + (l.length : Int) := by omega
    go_enter Try.func5, Try.ntmps5
    go_wp2_with fail
    refine (sSplitFields_any _ _).mono ?_
    rw [← HV.out]
    rintro e w1 ⟨Z, z, rfl, oz, x1⟩
    go_wp2_with fail
    refine (SplitFields_any _ _).mono ?_
    rw [← HV.out]
    rintro e w2 ⟨G, g, rfl, og, x2⟩
    have oz2 := oz.ext x2
    go_wp2_with fail
    refine (eqStringS_same G Z l g z _ og.r oz2.r (by omega)).mono ?_
    rintro e w3 ⟨rfl, x3⟩
    have oz3 := oz2.ext x3
    have og3 := og.ext x3
    go_wp2_with fail
    refine (markStringS_any G l g w1.heap.size w2.heap.size 1 _ og3 (by omega) (by omega) (by omega)).mono ?_
    rintro e w4 ⟨rfl, t4, og4⟩
    have oz4 := t4.ownV oz3 (.inl (Nat.le_refl _))
    go_wp2_with fail
    refine (heldStringS_any G l.length g 1 _ og4.r (by omega) (by omega) (by omega)).mono ?_
    rintro e w5 ⟨rfl, x5⟩
    have oz5 := oz4.ext x5
    have og5 := og4.ext x5
    go_wp2_with fail
    refine (SplitFields_any _ _).mono ?_
    rw [← HV.out]
    rintro e w6 ⟨H, h, rfl, oh, x6⟩
    have oz6 := oz5.ext x6
    have og6 := og5.ext x6
    go_wp2_with fail
    refine (eqStringS_same H Z l h z _ oh.r oz6.r (by omega)).mono ?_
    rintro e w7 ⟨rfl, x7⟩
    have og7 := og6.ext x7
    go_wp2_with fail
    refine (heldStringS_any G l.length g 1 _ og7.r (by omega) (by omega) (by omega)).mono ?_
    rintro e w8 ⟨rfl, x8⟩
    go_wp2
    go_ret
    exact ⟨rfl, Tur.below ((x1.trans x2).trans x3) (((((t4.ext x5).ext x6).ext x7).ext x8)) x1.size⟩

end Go.Proofs.Ytkdhgngpapfkdaa
