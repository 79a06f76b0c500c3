/-
  Contracts: where the middle of two points lies (the program's middle, twice).
-/
import Derived.Test.YtjccilpjaaiicaaJ5
import Derived.Test.YtjccilpjaaiicaaFloor
import Derived.Test.YtjccilpjaaiicaaJ3
namespace Go.Proofs.Ytjccilpjaaiicaa
open Go.RowKit

theorem two_wrap {x y : Int} (h : pok x y = true) : IntKind.i64.wrap (2 * x) = 2 * x ∧ IntKind.i64.wrap (2 * y) = 2 * y := by
  have := within_of_pok h
  unfold within at this
  exact ⟨wrap_in _ (by omega) (by omega), wrap_in _ (by omega) (by omega)⟩
theorem sum_wrap {ax ay bx by_ : Int} (ha : pok ax ay = true) (hb : pok bx by_ = true) : IntKind.i64.wrap (ax + bx) = ax + bx ∧ IntKind.i64.wrap (ay + by_) = ay + by_ := by
  have h1 := within_of_pok ha
  have h2 := within_of_pok hb
  unfold within at h1 h2
  exact ⟨wrap_in _ (by omega) (by omega), wrap_in _ (by omega) (by omega)⟩

theorem twice_any (x y : Int) (w : World) (h : pok x y = true) :
    Calls Try.prog 63 #[.agg #[.int .i64 x, .int .i64 y]] w fun e w' => e = .returned (.agg #[.int .i64 (2 * x), .int .i64 (2 * y)]) ∧ Ext w w' := by
  obtain ⟨q1, q2⟩ := two_wrap h
  rw [IntKind.wrap_i64] at q1 q2
  go_enter Try.func63, Try.ntmps63
  go_wp2
  exact bodyPost_ret (v := .agg #[.int .i64 (2 * x), .int .i64 (2 * y)]) (by simp [results, Try.results63, go_sem, q1, q2]) rfl ⟨rfl, by (repeat (first | exact Ext.refl _ | assumption | apply Ext.alloc | apply Ext.drew | apply Ext.drewN | (refine Ext.setCell ?_ (by simp; done) _) | (refine Ext.setCell ?_ (by simp; omega) _) | (refine Ext.trans ?_ (by assumption))))⟩

theorem flat_snoc (l : List (Int × Int)) (x y : Int) : flat (l ++ [(x, y)]) = flat l ++ [.int .i64 x, .int .i64 y] := flat_append l [(x, y)]

set_option maxRecDepth 100000 in
set_option maxHeartbeats 3200000 in
theorem middle_any (A : Option Addr) (l : List (Int × Int)) (c : Nat) (ax ay bx by_ : Int) (w : World) (hp : RPts w A l) (hr : roomB l = true) (ha : pok ax ay = true) (hb : pok bx by_ = true) :
    Calls Try.prog 44 #[.agg #[.slice A l.length c], .agg #[.int .i64 ax, .int .i64 ay], .agg #[.int .i64 bx, .int .i64 by_]] w fun e w' => e = .returned (.int .i64 (midP l ax ay bx by_)) ∧ Ext w w' := by
  obtain ⟨hf, h3⟩ := roomB_fine hr
  have h10 := hf.2
  obtain ⟨b, off, rfl⟩ := hp.some_ (by omega)
  have HF := hide hf
  clear hf
  obtain ⟨i0, hI, hZ, hS, hY⟩ := info_parts info_ipt
  obtain ⟨s1, s2⟩ := sum_wrap ha hb
  rw [IntKind.wrap_i64] at s1 s2
  have HB : Hid (∀ w', Ext (((w.alloc (.cells #[.slice (some ⟨b, off, none⟩) l.length c] 26)).alloc (.cells #[.int .i64 ax, .int .i64 ay] 28)).alloc (.cells #[.int .i64 bx, .int .i64 by_] 28)) w' → w'.cell? ⟨w.heap.size, 0, none⟩ = some (.slice (some ⟨b, off, none⟩) l.length c) ∧ w.heap.size < w'.heap.size ∧ w'.cell? ⟨w.heap.size + 1, 0, none⟩ = some (.int .i64 ax) ∧ w'.cell? ⟨w.heap.size + 1, 1, none⟩ = some (.int .i64 ay) ∧ w.heap.size + 1 < w'.heap.size ∧ w'.cell? ⟨w.heap.size + 1 + 1, 0, none⟩ = some (.int .i64 bx) ∧ w'.cell? ⟨w.heap.size + 1 + 1, 1, none⟩ = some (.int .i64 by_) ∧ w.heap.size + 1 + 1 < w'.heap.size) := fun w' hx => by
    and_intros <;> (first | (have hz := hx.size; simp at hz; omega) | ((first | rw [hx.cells _ _ (by first | (simp; done) | (simp; omega))] | rw [hx.frozens _ _ (by first | (simp; done) | (simp; omega))]); (first | (simp [go_sem]; done) | (simp [go_sem, World.cell?_alloc_past]; done) | (simp [go_sem, World.frozen?]; done))))
  clear ha hb hr
  go_enter Try.func44, Try.ntmps44
  go_wp2
  go_loopw [7, 14] (fun out i wr => ∃ (k : Nat) (o : Value), k ≤ l.length ∧ i = .int .i64 k ∧ o = out ∧ Ext (((w.alloc (.cells #[.slice (some ⟨b, off, none⟩) l.length c] 26)).alloc (.cells #[.int .i64 ax, .int .i64 ay] 28)).alloc (.cells #[.int .i64 bx, .int .i64 by_] 28)) wr ∧ wr.ownsRow (w.heap.size + 1 + 1 + 1) 28 2 o k (flat (dblTo l k))) (fun _ i _ => l.length - (intOf i).toNat)
  case atStart => exact ⟨0, _, Nat.zero_le _, rfl, rfl, by (repeat (first | exact Ext.refl _ | assumption | apply Ext.alloc | apply Ext.drew | apply Ext.drewN | (refine Ext.trans ?_ (by assumption)))), rfl, .inr ⟨w.heap.size + 1 + 1 + 1, 0, #[], by simp, Nat.le_refl _, by have h := heap_alloc_new (((w.alloc (.cells #[.slice (some ⟨b, off, none⟩) l.length c] 26)).alloc (.cells #[.int .i64 ax, .int .i64 ay] 28)).alloc (.cells #[.int .i64 bx, .int .i64 by_] 28)) (.cells #[] 28); simpa using h, Nat.le_refl _, by unfold maxLen; omega, rfl, rfl⟩⟩
  case round =>
    obtain ⟨k, o, hk, rfl, ho, hbl, hown⟩ := hrel
    subst ho
    obtain ⟨wq, rfl⟩ : ∃ wq : World, wq = wr := ⟨_, rfl⟩
    have fb := HB.out wq (by (repeat (first | exact Ext.refl _ | assumption | apply Ext.alloc | apply Ext.drew | apply Ext.drewN | (refine Ext.trans ?_ (by assumption)))))
    by_cases hlt : k < l.length
    · have q2 : (k : Int) < (l.length : Int) := by omega
      obtain ⟨hz, hx, hy⟩ := (hp.ext (show Ext w wq by (repeat (first | exact Ext.refl _ | assumption | apply Ext.alloc | apply Ext.drew | apply Ext.drewN | (refine Ext.trans ?_ (by assumption)))))).cell hlt
      have hpk := HF.out.pok hlt
      have HS := hide (dblTo_succ hlt)
      go_wp2_with (first | (go_at_call 63; refine (twice_any _ _ _ hpk).mono ?_; rintro e w1 ⟨rfl, hb1⟩; have hsz1 := (show Ext (((w.alloc (.cells #[.slice (some ⟨b, off, none⟩) l.length c] 26)).alloc (.cells #[.int .i64 ax, .int .i64 ay] 28)).alloc (.cells #[.int .i64 bx, .int .i64 by_] 28)) w1 by (repeat (first | exact Ext.refl _ | assumption | apply Ext.alloc | apply Ext.drew | apply Ext.drewN | (refine Ext.trans ?_ (by assumption))))).size; simp at hsz1) | (at_builtin; refine wpList_app _ rfl (.tmp 18) (.tmp 21) _ rfl (w.heap.size + 1 + 1 + 1) 28 i0 _ 2 16 Try.underlying24 hI hZ hS hY rfl (by omega) _ k (flat (dblTo l k)) (by rfl) (ownsRow_ext hown (by (repeat (first | exact Ext.refl _ | assumption | apply Ext.alloc | apply Ext.drew | apply Ext.drewN | (refine Ext.trans ?_ (by assumption)))))) ⟨w1.heap.size, 0, none⟩ 1 1 [.int .i64 (2 * gx l k), .int .i64 (2 * gy l k)] (by rfl) rfl (news_alloc w1 [.int .i64 (2 * gx l k), .int .i64 (2 * gy l k)] 28) (by simp [Value.oneCell']) (by unfold maxLen; omega) (by omega) (by simp; omega) ?_; intro v' w3 hown3 hg3 _))
      have hx3 : Ext (((w.alloc (.cells #[.slice (some ⟨b, off, none⟩) l.length c] 26)).alloc (.cells #[.int .i64 ax, .int .i64 ay] 28)).alloc (.cells #[.int .i64 bx, .int .i64 by_] 28)) w3 := ext_grown (show Ext (((w.alloc (.cells #[.slice (some ⟨b, off, none⟩) l.length c] 26)).alloc (.cells #[.int .i64 ax, .int .i64 ay] 28)).alloc (.cells #[.int .i64 bx, .int .i64 by_] 28)) (w1.alloc (.cells #[.int .i64 (2 * gx l k), .int .i64 (2 * gy l k)] 28)) by (repeat (first | exact Ext.refl _ | assumption | apply Ext.alloc | apply Ext.drew | apply Ext.drewN | (refine Ext.trans ?_ (by assumption))))) hg3 (fun q hq => by have := (hown.lt q hq).1; simp; omega)
      clear hown hg3
      go_wp2
      go_roundw
      case rel => exact ⟨k + 1, _, by omega, by go_num, rfl, by (repeat (first | exact Ext.refl _ | assumption | apply Ext.alloc | apply Ext.drew | apply Ext.drewN | (refine Ext.trans ?_ (by assumption)))), by rw [HS.out, flat_snoc]; exact hown3⟩
      case measure => simp [intOf]; omega
    · have e : k = l.length := by omega
      have q2 : ¬ (k : Int) < (l.length : Int) := by omega
      have E := hide e
      clear e
      obtain ⟨A', c', rfl⟩ := ownsRow_slice hown
      have hown' := hown
      rw [E.out] at hown'
      have hO := (OwnS.of_own (l := dblTo l l.length) hown').2
      have HL := hide (dbl_length l)
      have HR := hide (show RPts wq A' (dbl l) from hO.r (Nat.le_refl _))
      clear hO hown hown'
      go_wp2_with (go_at_call 42; rw [show (Value.slice A' k c') = .slice A' (dbl l).length c' by rw [HL.out, E.out]]; refine (place_any _ _ _ _ _ _ (HR.out.ext (by (repeat (first | exact Ext.refl _ | assumption | apply Ext.alloc | apply Ext.drew | apply Ext.drewN | (refine Ext.trans ?_ (by assumption)))))) (by rw [HL.out]; omega)).mono ?_; rintro e w2 ⟨rfl, hb2⟩)
      go_ret
      exact ⟨rfl, by (repeat (first | exact Ext.refl _ | assumption | apply Ext.alloc | apply Ext.drew | apply Ext.drewN | (refine Ext.trans ?_ (by assumption))))⟩

end Go.Proofs.Ytjccilpjaaiicaa
