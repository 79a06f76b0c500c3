/-
  Contract: the corners on a straight way, sorted (the program's cornersBetween).
-/
import Derived.Test.YtjccilpjaaiicaaSortP
import Derived.Test.YtjccilpjaaiicaaJ6
namespace Go.Proofs.Ytjccilpjaaiicaa
open Go.RowKit

/-- what cornersBetween returns -/
def RetC (l : List (Int × Int)) (ax ay bx by_ : Int) (w : World) (e : Ending) (w' : World) : Prop := ∃ (A' : Option Addr) (c' : Nat) (s : List (Int × Int)), e = .returned (.slice A' s.length c') ∧ s.Perm (cuts l ax ay bx by_) ∧ SortedK (kk (ax, ay)) (0, 0) s ∧ RPts w' A' s ∧ Ext w w'

theorem cutB_a {ax ay bx by_ cx cy : Int} (h1 : (cx == ax) = true) (h2 : (cy == ay) = true) : cutB ax ay bx by_ cx cy = false := by unfold cutB; rw [h1, h2]; rfl
theorem cutB_b {ax ay bx by_ cx cy : Int} (h1 : (cx == bx) = true) (h2 : (cy == by_) = true) : cutB ax ay bx by_ cx cy = false := by unfold cutB; rw [h1, h2]; simp
theorem cutB_on {ax ay bx by_ cx cy : Int} (h1 : (cx == ax && cy == ay) = false) (h2 : (cx == bx && cy == by_) = false) {v : Bool} (h3 : onW cx cy ax ay bx by_ = v) : cutB ax ay bx by_ cx cy = v := by unfold cutB; rw [h1, h2, h3]; rfl




set_option maxRecDepth 100000 in
set_option maxHeartbeats 8000000 in
theorem cornersBetween_any (A : Option Addr) (l : List (Int × Int)) (c : Nat) (ax ay bx by_ : Int) (w : World) (hp : RPts w A l) (hr : roomB l = true) (ha : pok ax ay = true) (hb : pok bx by_ = true) :
    Calls Try.prog 43 #[.agg #[.slice A l.length c], .agg #[.int .i64 ax, .int .i64 ay], .agg #[.int .i64 bx, .int .i64 by_]] w (RetC l ax ay bx by_ w) := by
  obtain ⟨hf, h3⟩ := roomB_fine hr
  have h10 := hf.2
  obtain ⟨b, off, rfl⟩ := hp.some_ (by omega)
  have HALL := hide (fun p hp => (cuts_on hf ha hb p hp).1)
  have HPA := hide ha
  clear hf
  obtain ⟨i0, hI, hZ, hS, hY⟩ := info_parts info_ipt
  have HB : Hid (∀ w', Ext (((w.alloc (.cells #[.slice (some ⟨b, off, none⟩) l.length c] 26)).alloc (.cells #[.int .i64 ax, .int .i64 ay] 28)).alloc (.cells #[.int .i64 bx, .int .i64 by_] 28)) w' → w'.cell? ⟨w.heap.size, 0, none⟩ = some (.slice (some ⟨b, off, none⟩) l.length c) ∧ w.heap.size < w'.heap.size ∧ w'.cell? ⟨w.heap.size + 1, 0, none⟩ = some (.int .i64 ax) ∧ w'.cell? ⟨w.heap.size + 1, 1, none⟩ = some (.int .i64 ay) ∧ w.heap.size + 1 < w'.heap.size ∧ w'.cell? ⟨w.heap.size + 1 + 1, 0, none⟩ = some (.int .i64 bx) ∧ w'.cell? ⟨w.heap.size + 1 + 1, 1, none⟩ = some (.int .i64 by_) ∧ w.heap.size + 1 + 1 < w'.heap.size) := fun w' hx => by
    and_intros <;> (first | (have hz := hx.size; simp at hz; omega) | ((first | rw [hx.cells _ _ (by first | (simp; done) | (simp; omega))] | rw [hx.frozens _ _ (by first | (simp; done) | (simp; omega))]); (first | (simp [go_sem]; done) | (simp [go_sem, World.cell?_alloc_past]; done) | (simp [go_sem, World.frozen?]; done))))
  clear ha hb hr
  have HL := hide (fun k => cutsTo_length l ax ay bx by_ k)
  go_enter Try.func43, Try.ntmps43
  go_wp2
  go_loopw [7, 16] (fun out i wr => ∃ (k : Nat) (o : Value), k ≤ l.length ∧ i = .int .i64 k ∧ o = out ∧ Ext (((w.alloc (.cells #[.slice (some ⟨b, off, none⟩) l.length c] 26)).alloc (.cells #[.int .i64 ax, .int .i64 ay] 28)).alloc (.cells #[.int .i64 bx, .int .i64 by_] 28)) wr ∧ wr.ownsRow (w.heap.size + 1 + 1 + 1) 28 2 o (cutsTo l ax ay bx by_ k).length (flat (cutsTo l ax ay bx by_ k))) (fun _ i _ => l.length - (intOf i).toNat)
  case atStart => exact ⟨0, _, Nat.zero_le _, rfl, rfl, by (repeat (first | exact Ext.refl _ | assumption | apply Ext.alloc | apply Ext.drew | apply Ext.drewN | (refine Ext.trans ?_ (by assumption)))), rfl, .inr ⟨w.heap.size + 1 + 1 + 1, 2, #[.int .i64 ax, .int .i64 ay, .int .i64 bx, .int .i64 by_], by simp [cutsTo], Nat.le_refl _, by have h := heap_alloc_new (((w.alloc (.cells #[.slice (some ⟨b, off, none⟩) l.length c] 26)).alloc (.cells #[.int .i64 ax, .int .i64 ay] 28)).alloc (.cells #[.int .i64 bx, .int .i64 by_] 28)) (.cells #[.int .i64 ax, .int .i64 ay, .int .i64 bx, .int .i64 by_] 28); simpa using h, Nat.le_refl _, by unfold maxLen; omega, rfl, rfl⟩⟩
  case round =>
    obtain ⟨k, o, hk, rfl, ho, hbl, hown⟩ := hrel
    subst ho
    obtain ⟨wq, rfl⟩ : ∃ wq : World, wq = wr := ⟨_, rfl⟩
    have fb := HB.out wq (by (repeat (first | exact Ext.refl _ | assumption | apply Ext.alloc | apply Ext.drew | apply Ext.drewN | (refine Ext.trans ?_ (by assumption)))))
    have hkl := HL.out k
    by_cases hlt : k < l.length
    · have q2 : (k : Int) < (l.length : Int) := by omega
      obtain ⟨hz, hx, hy⟩ := (hp.ext (show Ext w wq by (repeat (first | exact Ext.refl _ | assumption | apply Ext.alloc | apply Ext.drew | apply Ext.drewN | (refine Ext.trans ?_ (by assumption)))))).cell hlt
      have HQ : Hid (∀ w', Ext (wq.alloc (.cells #[.int .i64 (gx l k), .int .i64 (gy l k)] 28)) w' → w'.cell? ⟨wq.heap.size, 0, none⟩ = some (.int .i64 (gx l k)) ∧ w'.cell? ⟨wq.heap.size, 1, none⟩ = some (.int .i64 (gy l k)) ∧ wq.heap.size < w'.heap.size) := fun w' hx => by
        and_intros <;> (first | (have hz := hx.size; simp at hz; omega) | ((first | rw [hx.cells _ _ (by first | (simp; done) | (simp; omega))] | rw [hx.frozens _ _ (by first | (simp; done) | (simp; omega))]); (first | (simp [go_sem]; done) | (simp [go_sem, World.cell?_alloc_past]; done) | (simp [go_sem, World.frozen?]; done))))
      cases z1 : (gx l k == ax)
      · cases z3 : (gx l k == bx)
        · cases ho : onW (gx l k) (gy l k) ax ay bx by_
          · have HC := hide (cutsTo_off (ax := ax) (ay := ay) (bx := bx) (by_ := by_) hlt (by first | exact cutB_a (by first | exact z1) (by first | exact z2) | exact cutB_b (by first | exact z3) (by first | exact z4) | exact cutB_on (by simp [z1]) (by simp [z3]) ho))
            go_wp2_with (go_at_call 51; refine (on_any _ _ _ _ _ _ _).mono ?_; (try rw [ho]); rintro e w1 ⟨rfl, hb1⟩)
            go_roundw
            case rel => exact ⟨k + 1, _, by omega, by go_num, rfl, by (repeat (first | exact Ext.refl _ | assumption | apply Ext.alloc | apply Ext.drew | apply Ext.drewN | (refine Ext.trans ?_ (by assumption)))), by rw [HC.out]; exact ownsRow_ext hown (by (repeat (first | exact Ext.refl _ | assumption | apply Ext.alloc | apply Ext.drew | apply Ext.drewN | (refine Ext.trans ?_ (by assumption)))))⟩
            case measure => simp [intOf]; omega
          · have HC := hide (cutsTo_on (ax := ax) (ay := ay) (bx := bx) (by_ := by_) hlt (cutB_on (by simp [z1]) (by simp [z3]) ho))
            go_wp2_with (first | (go_at_call 51; refine (on_any _ _ _ _ _ _ _).mono ?_; rw [ho]; rintro e w1 ⟨rfl, hb1⟩; have fq := HQ.out w1 (by (repeat (first | exact Ext.refl _ | assumption | apply Ext.alloc | apply Ext.drew | apply Ext.drewN | (refine Ext.trans ?_ (by assumption))))); have hsz1 := (show Ext (((w.alloc (.cells #[.slice (some ⟨b, off, none⟩) l.length c] 26)).alloc (.cells #[.int .i64 ax, .int .i64 ay] 28)).alloc (.cells #[.int .i64 bx, .int .i64 by_] 28)) w1 by (repeat (first | exact Ext.refl _ | assumption | apply Ext.alloc | apply Ext.drew | apply Ext.drewN | (refine Ext.trans ?_ (by assumption))))).size; simp at hsz1) | (at_builtin; refine wpList_app _ rfl (.tmp 34) (.tmp 36) _ rfl (w.heap.size + 1 + 1 + 1) 28 i0 _ 2 16 Try.underlying24 hI hZ hS hY rfl (by omega) _ _ (flat (cutsTo l ax ay bx by_ k)) (by rfl) (ownsRow_ext hown (by (repeat (first | exact Ext.refl _ | assumption | apply Ext.alloc | apply Ext.drew | apply Ext.drewN | (refine Ext.trans ?_ (by assumption)))))) ⟨w1.heap.size, 0, none⟩ 1 1 [.int .i64 (gx l k), .int .i64 (gy l k)] (by rfl) rfl (news_alloc w1 [.int .i64 (gx l k), .int .i64 (gy l k)] 28) (by simp [Value.oneCell']) (by unfold maxLen; omega) (by omega) (by simp; omega) ?_; intro v' w3 hown3 hg3 _))
            have hx3 : Ext (((w.alloc (.cells #[.slice (some ⟨b, off, none⟩) l.length c] 26)).alloc (.cells #[.int .i64 ax, .int .i64 ay] 28)).alloc (.cells #[.int .i64 bx, .int .i64 by_] 28)) w3 := ext_grown (show Ext (((w.alloc (.cells #[.slice (some ⟨b, off, none⟩) l.length c] 26)).alloc (.cells #[.int .i64 ax, .int .i64 ay] 28)).alloc (.cells #[.int .i64 bx, .int .i64 by_] 28)) (w1.alloc (.cells #[.int .i64 (gx l k), .int .i64 (gy l k)] 28)) by (repeat (first | exact Ext.refl _ | assumption | apply Ext.alloc | apply Ext.drew | apply Ext.drewN | (refine Ext.trans ?_ (by assumption))))) hg3 (fun q hq => by have := (hown.lt q hq).1; simp; omega)
            clear hown hg3
            go_wp2
            go_roundw
            case rel => exact ⟨k + 1, _, by omega, by go_num, rfl, by (repeat (first | exact Ext.refl _ | assumption | apply Ext.alloc | apply Ext.drew | apply Ext.drewN | (refine Ext.trans ?_ (by assumption)))), by rw [HC.out, flat_snoc, List.length_append]; exact hown3⟩
            case measure => simp [intOf]; omega
        · cases z4 : (gy l k == by_)
          · cases ho : onW (gx l k) (gy l k) ax ay bx by_
            · have HC := hide (cutsTo_off (ax := ax) (ay := ay) (bx := bx) (by_ := by_) hlt (by first | exact cutB_a (by first | exact z1) (by first | exact z2) | exact cutB_b (by first | exact z3) (by first | exact z4) | exact cutB_on (by simp [z1]) (by simp [z4]) ho))
              go_wp2_with (go_at_call 51; refine (on_any _ _ _ _ _ _ _).mono ?_; (try rw [ho]); rintro e w1 ⟨rfl, hb1⟩)
              go_roundw
              case rel => exact ⟨k + 1, _, by omega, by go_num, rfl, by (repeat (first | exact Ext.refl _ | assumption | apply Ext.alloc | apply Ext.drew | apply Ext.drewN | (refine Ext.trans ?_ (by assumption)))), by rw [HC.out]; exact ownsRow_ext hown (by (repeat (first | exact Ext.refl _ | assumption | apply Ext.alloc | apply Ext.drew | apply Ext.drewN | (refine Ext.trans ?_ (by assumption)))))⟩
              case measure => simp [intOf]; omega
            · have HC := hide (cutsTo_on (ax := ax) (ay := ay) (bx := bx) (by_ := by_) hlt (cutB_on (by simp [z1]) (by simp [z4]) ho))
              go_wp2_with (first | (go_at_call 51; refine (on_any _ _ _ _ _ _ _).mono ?_; rw [ho]; rintro e w1 ⟨rfl, hb1⟩; have fq := HQ.out w1 (by (repeat (first | exact Ext.refl _ | assumption | apply Ext.alloc | apply Ext.drew | apply Ext.drewN | (refine Ext.trans ?_ (by assumption))))); have hsz1 := (show Ext (((w.alloc (.cells #[.slice (some ⟨b, off, none⟩) l.length c] 26)).alloc (.cells #[.int .i64 ax, .int .i64 ay] 28)).alloc (.cells #[.int .i64 bx, .int .i64 by_] 28)) w1 by (repeat (first | exact Ext.refl _ | assumption | apply Ext.alloc | apply Ext.drew | apply Ext.drewN | (refine Ext.trans ?_ (by assumption))))).size; simp at hsz1) | (at_builtin; refine wpList_app _ rfl (.tmp 34) (.tmp 36) _ rfl (w.heap.size + 1 + 1 + 1) 28 i0 _ 2 16 Try.underlying24 hI hZ hS hY rfl (by omega) _ _ (flat (cutsTo l ax ay bx by_ k)) (by rfl) (ownsRow_ext hown (by (repeat (first | exact Ext.refl _ | assumption | apply Ext.alloc | apply Ext.drew | apply Ext.drewN | (refine Ext.trans ?_ (by assumption)))))) ⟨w1.heap.size, 0, none⟩ 1 1 [.int .i64 (gx l k), .int .i64 (gy l k)] (by rfl) rfl (news_alloc w1 [.int .i64 (gx l k), .int .i64 (gy l k)] 28) (by simp [Value.oneCell']) (by unfold maxLen; omega) (by omega) (by simp; omega) ?_; intro v' w3 hown3 hg3 _))
              have hx3 : Ext (((w.alloc (.cells #[.slice (some ⟨b, off, none⟩) l.length c] 26)).alloc (.cells #[.int .i64 ax, .int .i64 ay] 28)).alloc (.cells #[.int .i64 bx, .int .i64 by_] 28)) w3 := ext_grown (show Ext (((w.alloc (.cells #[.slice (some ⟨b, off, none⟩) l.length c] 26)).alloc (.cells #[.int .i64 ax, .int .i64 ay] 28)).alloc (.cells #[.int .i64 bx, .int .i64 by_] 28)) (w1.alloc (.cells #[.int .i64 (gx l k), .int .i64 (gy l k)] 28)) by (repeat (first | exact Ext.refl _ | assumption | apply Ext.alloc | apply Ext.drew | apply Ext.drewN | (refine Ext.trans ?_ (by assumption))))) hg3 (fun q hq => by have := (hown.lt q hq).1; simp; omega)
              clear hown hg3
              go_wp2
              go_roundw
              case rel => exact ⟨k + 1, _, by omega, by go_num, rfl, by (repeat (first | exact Ext.refl _ | assumption | apply Ext.alloc | apply Ext.drew | apply Ext.drewN | (refine Ext.trans ?_ (by assumption)))), by rw [HC.out, flat_snoc, List.length_append]; exact hown3⟩
              case measure => simp [intOf]; omega
          · have HC := hide (cutsTo_off (ax := ax) (ay := ay) (bx := bx) (by_ := by_) hlt (by first | exact cutB_a (by first | exact z1) (by first | exact z2) | exact cutB_b (by first | exact z3) (by first | exact z4) | exact cutB_on _ _ ho))
            go_wp2_with (go_at_call 51; refine (on_any _ _ _ _ _ _ _).mono ?_; (try rw [ho]); rintro e w1 ⟨rfl, hb1⟩)
            go_roundw
            case rel => exact ⟨k + 1, _, by omega, by go_num, rfl, by (repeat (first | exact Ext.refl _ | assumption | apply Ext.alloc | apply Ext.drew | apply Ext.drewN | (refine Ext.trans ?_ (by assumption)))), by rw [HC.out]; exact ownsRow_ext hown (by (repeat (first | exact Ext.refl _ | assumption | apply Ext.alloc | apply Ext.drew | apply Ext.drewN | (refine Ext.trans ?_ (by assumption)))))⟩
            case measure => simp [intOf]; omega
      · cases z2 : (gy l k == ay)
        · cases z3 : (gx l k == bx)
          · cases ho : onW (gx l k) (gy l k) ax ay bx by_
            · have HC := hide (cutsTo_off (ax := ax) (ay := ay) (bx := bx) (by_ := by_) hlt (by first | exact cutB_a (by first | exact z1) (by first | exact z2) | exact cutB_b (by first | exact z3) (by first | exact z4) | exact cutB_on (by simp [z2]) (by simp [z3]) ho))
              go_wp2_with (go_at_call 51; refine (on_any _ _ _ _ _ _ _).mono ?_; (try rw [ho]); rintro e w1 ⟨rfl, hb1⟩)
              go_roundw
              case rel => exact ⟨k + 1, _, by omega, by go_num, rfl, by (repeat (first | exact Ext.refl _ | assumption | apply Ext.alloc | apply Ext.drew | apply Ext.drewN | (refine Ext.trans ?_ (by assumption)))), by rw [HC.out]; exact ownsRow_ext hown (by (repeat (first | exact Ext.refl _ | assumption | apply Ext.alloc | apply Ext.drew | apply Ext.drewN | (refine Ext.trans ?_ (by assumption)))))⟩
              case measure => simp [intOf]; omega
            · have HC := hide (cutsTo_on (ax := ax) (ay := ay) (bx := bx) (by_ := by_) hlt (cutB_on (by simp [z2]) (by simp [z3]) ho))
              go_wp2_with (first | (go_at_call 51; refine (on_any _ _ _ _ _ _ _).mono ?_; rw [ho]; rintro e w1 ⟨rfl, hb1⟩; have fq := HQ.out w1 (by (repeat (first | exact Ext.refl _ | assumption | apply Ext.alloc | apply Ext.drew | apply Ext.drewN | (refine Ext.trans ?_ (by assumption))))); have hsz1 := (show Ext (((w.alloc (.cells #[.slice (some ⟨b, off, none⟩) l.length c] 26)).alloc (.cells #[.int .i64 ax, .int .i64 ay] 28)).alloc (.cells #[.int .i64 bx, .int .i64 by_] 28)) w1 by (repeat (first | exact Ext.refl _ | assumption | apply Ext.alloc | apply Ext.drew | apply Ext.drewN | (refine Ext.trans ?_ (by assumption))))).size; simp at hsz1) | (at_builtin; refine wpList_app _ rfl (.tmp 34) (.tmp 36) _ rfl (w.heap.size + 1 + 1 + 1) 28 i0 _ 2 16 Try.underlying24 hI hZ hS hY rfl (by omega) _ _ (flat (cutsTo l ax ay bx by_ k)) (by rfl) (ownsRow_ext hown (by (repeat (first | exact Ext.refl _ | assumption | apply Ext.alloc | apply Ext.drew | apply Ext.drewN | (refine Ext.trans ?_ (by assumption)))))) ⟨w1.heap.size, 0, none⟩ 1 1 [.int .i64 (gx l k), .int .i64 (gy l k)] (by rfl) rfl (news_alloc w1 [.int .i64 (gx l k), .int .i64 (gy l k)] 28) (by simp [Value.oneCell']) (by unfold maxLen; omega) (by omega) (by simp; omega) ?_; intro v' w3 hown3 hg3 _))
              have hx3 : Ext (((w.alloc (.cells #[.slice (some ⟨b, off, none⟩) l.length c] 26)).alloc (.cells #[.int .i64 ax, .int .i64 ay] 28)).alloc (.cells #[.int .i64 bx, .int .i64 by_] 28)) w3 := ext_grown (show Ext (((w.alloc (.cells #[.slice (some ⟨b, off, none⟩) l.length c] 26)).alloc (.cells #[.int .i64 ax, .int .i64 ay] 28)).alloc (.cells #[.int .i64 bx, .int .i64 by_] 28)) (w1.alloc (.cells #[.int .i64 (gx l k), .int .i64 (gy l k)] 28)) by (repeat (first | exact Ext.refl _ | assumption | apply Ext.alloc | apply Ext.drew | apply Ext.drewN | (refine Ext.trans ?_ (by assumption))))) hg3 (fun q hq => by have := (hown.lt q hq).1; simp; omega)
              clear hown hg3
              go_wp2
              go_roundw
              case rel => exact ⟨k + 1, _, by omega, by go_num, rfl, by (repeat (first | exact Ext.refl _ | assumption | apply Ext.alloc | apply Ext.drew | apply Ext.drewN | (refine Ext.trans ?_ (by assumption)))), by rw [HC.out, flat_snoc, List.length_append]; exact hown3⟩
              case measure => simp [intOf]; omega
          · cases z4 : (gy l k == by_)
            · cases ho : onW (gx l k) (gy l k) ax ay bx by_
              · have HC := hide (cutsTo_off (ax := ax) (ay := ay) (bx := bx) (by_ := by_) hlt (by first | exact cutB_a (by first | exact z1) (by first | exact z2) | exact cutB_b (by first | exact z3) (by first | exact z4) | exact cutB_on (by simp [z2]) (by simp [z4]) ho))
                go_wp2_with (go_at_call 51; refine (on_any _ _ _ _ _ _ _).mono ?_; (try rw [ho]); rintro e w1 ⟨rfl, hb1⟩)
                go_roundw
                case rel => exact ⟨k + 1, _, by omega, by go_num, rfl, by (repeat (first | exact Ext.refl _ | assumption | apply Ext.alloc | apply Ext.drew | apply Ext.drewN | (refine Ext.trans ?_ (by assumption)))), by rw [HC.out]; exact ownsRow_ext hown (by (repeat (first | exact Ext.refl _ | assumption | apply Ext.alloc | apply Ext.drew | apply Ext.drewN | (refine Ext.trans ?_ (by assumption)))))⟩
                case measure => simp [intOf]; omega
              · have HC := hide (cutsTo_on (ax := ax) (ay := ay) (bx := bx) (by_ := by_) hlt (cutB_on (by simp [z2]) (by simp [z4]) ho))
                go_wp2_with (first | (go_at_call 51; refine (on_any _ _ _ _ _ _ _).mono ?_; rw [ho]; rintro e w1 ⟨rfl, hb1⟩; have fq := HQ.out w1 (by (repeat (first | exact Ext.refl _ | assumption | apply Ext.alloc | apply Ext.drew | apply Ext.drewN | (refine Ext.trans ?_ (by assumption))))); have hsz1 := (show Ext (((w.alloc (.cells #[.slice (some ⟨b, off, none⟩) l.length c] 26)).alloc (.cells #[.int .i64 ax, .int .i64 ay] 28)).alloc (.cells #[.int .i64 bx, .int .i64 by_] 28)) w1 by (repeat (first | exact Ext.refl _ | assumption | apply Ext.alloc | apply Ext.drew | apply Ext.drewN | (refine Ext.trans ?_ (by assumption))))).size; simp at hsz1) | (at_builtin; refine wpList_app _ rfl (.tmp 34) (.tmp 36) _ rfl (w.heap.size + 1 + 1 + 1) 28 i0 _ 2 16 Try.underlying24 hI hZ hS hY rfl (by omega) _ _ (flat (cutsTo l ax ay bx by_ k)) (by rfl) (ownsRow_ext hown (by (repeat (first | exact Ext.refl _ | assumption | apply Ext.alloc | apply Ext.drew | apply Ext.drewN | (refine Ext.trans ?_ (by assumption)))))) ⟨w1.heap.size, 0, none⟩ 1 1 [.int .i64 (gx l k), .int .i64 (gy l k)] (by rfl) rfl (news_alloc w1 [.int .i64 (gx l k), .int .i64 (gy l k)] 28) (by simp [Value.oneCell']) (by unfold maxLen; omega) (by omega) (by simp; omega) ?_; intro v' w3 hown3 hg3 _))
                have hx3 : Ext (((w.alloc (.cells #[.slice (some ⟨b, off, none⟩) l.length c] 26)).alloc (.cells #[.int .i64 ax, .int .i64 ay] 28)).alloc (.cells #[.int .i64 bx, .int .i64 by_] 28)) w3 := ext_grown (show Ext (((w.alloc (.cells #[.slice (some ⟨b, off, none⟩) l.length c] 26)).alloc (.cells #[.int .i64 ax, .int .i64 ay] 28)).alloc (.cells #[.int .i64 bx, .int .i64 by_] 28)) (w1.alloc (.cells #[.int .i64 (gx l k), .int .i64 (gy l k)] 28)) by (repeat (first | exact Ext.refl _ | assumption | apply Ext.alloc | apply Ext.drew | apply Ext.drewN | (refine Ext.trans ?_ (by assumption))))) hg3 (fun q hq => by have := (hown.lt q hq).1; simp; omega)
                clear hown hg3
                go_wp2
                go_roundw
                case rel => exact ⟨k + 1, _, by omega, by go_num, rfl, by (repeat (first | exact Ext.refl _ | assumption | apply Ext.alloc | apply Ext.drew | apply Ext.drewN | (refine Ext.trans ?_ (by assumption)))), by rw [HC.out, flat_snoc, List.length_append]; exact hown3⟩
                case measure => simp [intOf]; omega
            · have HC := hide (cutsTo_off (ax := ax) (ay := ay) (bx := bx) (by_ := by_) hlt (by first | exact cutB_a (by first | exact z1) (by first | exact z2) | exact cutB_b (by first | exact z3) (by first | exact z4) | exact cutB_on _ _ ho))
              go_wp2_with (go_at_call 51; refine (on_any _ _ _ _ _ _ _).mono ?_; (try rw [ho]); rintro e w1 ⟨rfl, hb1⟩)
              go_roundw
              case rel => exact ⟨k + 1, _, by omega, by go_num, rfl, by (repeat (first | exact Ext.refl _ | assumption | apply Ext.alloc | apply Ext.drew | apply Ext.drewN | (refine Ext.trans ?_ (by assumption)))), by rw [HC.out]; exact ownsRow_ext hown (by (repeat (first | exact Ext.refl _ | assumption | apply Ext.alloc | apply Ext.drew | apply Ext.drewN | (refine Ext.trans ?_ (by assumption)))))⟩
              case measure => simp [intOf]; omega
        · have HC := hide (cutsTo_off (ax := ax) (ay := ay) (bx := bx) (by_ := by_) hlt (by first | exact cutB_a (by first | exact z1) (by first | exact z2) | exact cutB_b (by first | exact z3) (by first | exact z4) | exact cutB_on _ _ ho))
          go_wp2_with (go_at_call 51; refine (on_any _ _ _ _ _ _ _).mono ?_; (try rw [ho]); rintro e w1 ⟨rfl, hb1⟩)
          go_roundw
          case rel => exact ⟨k + 1, _, by omega, by go_num, rfl, by (repeat (first | exact Ext.refl _ | assumption | apply Ext.alloc | apply Ext.drew | apply Ext.drewN | (refine Ext.trans ?_ (by assumption)))), by rw [HC.out]; exact ownsRow_ext hown (by (repeat (first | exact Ext.refl _ | assumption | apply Ext.alloc | apply Ext.drew | apply Ext.drewN | (refine Ext.trans ?_ (by assumption)))))⟩
          case measure => simp [intOf]; omega
    · have e : k = l.length := by omega
      have q2 : ¬ (k : Int) < (l.length : Int) := by omega
      have E := hide e
      clear e
      obtain ⟨A', c', rfl⟩ := ownsRow_slice hown
      obtain ⟨g, rfl, hg1, hg2, hO⟩ := (OwnS.of_own hown).2 (by omega)
      have HO := hide hO
      have hwq := (show Ext w wq by (repeat (first | exact Ext.refl _ | assumption | apply Ext.alloc | apply Ext.drew | apply Ext.drewN | (refine Ext.trans ?_ (by assumption))))).size
      have hne : w.heap.size + 1 ≠ g := by omega
      have HS := hide (sort_any (w.heap.size + 1) ax ay g 28 (cutsTo l ax ay bx by_ k) c' w wq (by (repeat (first | exact Ext.refl _ | assumption | apply Ext.alloc | apply Ext.drew | apply Ext.drewN | (refine Ext.trans ?_ (by assumption))))) (by omega) hO (by rw [E.out]; exact HALL.out) HPA.out fb.2.2.2.2.1 hne fb.2.2.1 fb.2.2.2.1 (by omega))
      clear hO hown
      go_wp2_with (go_at_call 60; refine HS.out.mono ?_; rintro e w2 ⟨rfl, s, hs1, hs2, hs3, hs4⟩)
      go_ret
      refine ⟨some ⟨g, 0, none⟩, c', s, ?_, ?_, hs2, hs3, hs4⟩
      · rw [hs1.length_eq]; rfl
      · rw [E.out] at hs1; exact hs1

end Go.Proofs.Ytjccilpjaaiicaa
