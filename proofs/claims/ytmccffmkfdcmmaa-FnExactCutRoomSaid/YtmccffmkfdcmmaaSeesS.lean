/-
  Contract: sight in a valid room (the reference's l08Sees).
-/
import Derived.Test.YtmccffmkfdcmmaaCornersB
import Derived.Test.YtmccffmkfdcmmaaMerge
namespace Go.Proofs.Ytmccffmkfdcmmaa
open Go.RowKit

/-- a new block of a region's own, told by a pointer -/
def NewC (lo : Nat) (cs : Array Value) (T : TypeId) (v : Value) (w : World) : Prop := ∃ g, v = .pointer (some ⟨g, 0, none⟩) ∧ lo ≤ g ∧ w.heap[g]? = some (.cells cs T (0, 0))
theorem NewC_stable (lo : Nat) (cs : Array Value) (T : TypeId) : Stable (NewC lo cs T) := by
  rintro v w w' ⟨g, rfl, h1, h2⟩ hx
  exact ⟨g, rfl, h1, (hx.below.block g (heap_lt h2)).trans h2⟩
theorem NewC_mk {lo : Nat} {cs : Array Value} {T : TypeId} (w : World) (h : lo ≤ w.heap.size) : NewC lo cs T (.pointer (some ⟨w.heap.size, 0, none⟩)) (w.alloc (.cells cs T)) := ⟨_, rfl, h, heap_alloc_new w _⟩

theorem ownBlock_ne {w w1 : World} {base e size n : Nat} {o o' v' : Value} {xs : List Value} (h : w.ownsRow base e size o' n xs) (hx : Ext w w1) (hd : o.ownBlock ≠ o'.ownBlock) (hv : v'.ownBlock = o.ownBlock ∨ v'.ownBlock = some w1.heap.size) : v'.ownBlock ≠ o'.ownBlock := by
  rcases hv with hv | hv
  · rw [hv]; exact hd
  · rw [hv]
    intro he
    have := (h.lt _ he.symm).2
    have := hx.size
    omega

theorem sHolds_at (A : Option Addr) (l : List (Int × Int)) (k c : Nat) (px py : Int) (w : World) (hp : RPts w A l) (hk : k = l.length) (hn : k ≤ 1048576) :
    Calls Try.prog 72 #[.slice A k c, .agg #[.int .i64 px, .int .i64 py]] w fun e w' => e = .returned (.int .i64 (holdsV l px py)) ∧ Ext w w' := by
  subst hk
  exact sHolds_any A l c px py w hp hn

theorem cross_sw {l : List (Int × Int)} {ax ay bx by_ : Int} {k : Nat} {v : Bool} (h : crsE l ax ay bx by_ k = v) : crossB ax ay bx by_ (gx l k) (gy l k) (gx l ((k + 1) % l.length)) (gy l ((k + 1) % l.length)) = v := by
  rw [side_comm]; exact h












set_option maxRecDepth 100000 in
set_option maxHeartbeats 16000000 in
theorem sl08Sees_any (A : Option Addr) (l : List (Int × Int)) (c : Nat) (ax ay bx by_ : Int) (w : World) (hp : RPts w A l) (hr : roomB l = true) (ha : pok ax ay = true) (hb : pok bx by_ = true) :
    Calls Try.prog 55 #[.slice A l.length c, .agg #[.int .i64 ax, .int .i64 ay], .agg #[.int .i64 bx, .int .i64 by_]] w fun e w' => e = .returned (.bool (seesV l ax ay bx by_)) ∧ Ext w w' := by
  obtain ⟨hf, h3⟩ := roomB_fine hr
  have h10 := hf.2
  have hn : l.length ≤ 1048576 := by omega
  obtain ⟨b, off, rfl⟩ := hp.some_ (by omega)
  have HF := hide hf
  have HR := hide hr
  have HPA := hide ha
  have HPB := hide hb
  obtain ⟨i0, hI, hZ, hS, hY⟩ := info_parts info_ipt
  clear hf hr ha hb
  have HB : Hid (∀ w', Ext ((w.alloc (.cells #[.int .i64 ax, .int .i64 ay] 35)).alloc (.cells #[.int .i64 bx, .int .i64 by_] 35)) w' → w'.cell? ⟨w.heap.size, 0, none⟩ = some (.int .i64 ax) ∧ w'.cell? ⟨w.heap.size, 1, none⟩ = some (.int .i64 ay) ∧ w.heap.size < w'.heap.size ∧ w'.cell? ⟨w.heap.size + 1, 0, none⟩ = some (.int .i64 bx) ∧ w'.cell? ⟨w.heap.size + 1, 1, none⟩ = some (.int .i64 by_) ∧ w.heap.size + 1 < w'.heap.size) := fun w' hx => by
    and_intros <;> (first | (have hz := hx.size; simp at hz; omega) | ((first | rw [hx.cells _ _ (by first | (simp; done) | (simp; omega))] | rw [hx.frozens _ _ (by first | (simp; done) | (simp; omega))]); (first | (simp [go_sem]; done) | (simp [go_sem, World.cell?_alloc_past]; done) | (simp [go_sem, World.frozen?]; done))))
  have HL := hide (fun k => cutsTo_length l ax ay bx by_ k)
  go_enter Try.func55, Try.ntmps55
  go_wp2
  go_loopw [8, 9, 10] (fun out1 out2 i wr => ∃ (k : Nat) (o1 o2 : Value), k ≤ l.length ∧ i = .int .i64 k ∧ o1 = out1 ∧ o2 = out2 ∧ Ext ((w.alloc (.cells #[.int .i64 ax, .int .i64 ay] 35)).alloc (.cells #[.int .i64 bx, .int .i64 by_] 35)) wr ∧ wr.ownsRow (w.heap.size + 1 + 1) 35 2 o1 (cutsTo l ax ay bx by_ k).length (flat (cutsTo l ax ay bx by_ k)) ∧ wr.ownsRow (w.heap.size + 1 + 1) 35 2 o2 k (flat (dblTo l k)) ∧ o1.ownBlock ≠ o2.ownBlock ∧ Hid (clearTo l ax ay bx by_ k = true)) (fun _ _ i _ => l.length - (intOf i).toNat)
  case atStart =>
    refine ⟨0, _, _, Nat.zero_le _, rfl, rfl, rfl, by (repeat (first | exact Ext.refl _ | assumption | apply Ext.alloc | apply Ext.drew | apply Ext.drewN | (refine Ext.trans ?_ (by assumption)))), ⟨rfl, .inr ⟨w.heap.size + 1 + 1, 2, #[.int .i64 ax, .int .i64 ay, .int .i64 bx, .int .i64 by_], by simp [cutsTo], Nat.le_refl _, ?_, Nat.le_refl _, by unfold maxLen; omega, rfl, rfl⟩⟩, ⟨rfl, .inr ⟨w.heap.size + 1 + 1 + 1, 0, #[], by simp, by omega, ?_, Nat.le_refl _, by unfold maxLen; omega, rfl, rfl⟩⟩, by simp [Value.ownBlock], hide rfl⟩
    · have h := heap_alloc_new ((w.alloc (.cells #[.int .i64 ax, .int .i64 ay] 35)).alloc (.cells #[.int .i64 bx, .int .i64 by_] 35)) (.cells #[.int .i64 ax, .int .i64 ay, .int .i64 bx, .int .i64 by_] 35)
      have hx := (Ext.refl (((w.alloc (.cells #[.int .i64 ax, .int .i64 ay] 35)).alloc (.cells #[.int .i64 bx, .int .i64 by_] 35)).alloc (.cells #[.int .i64 ax, .int .i64 ay, .int .i64 bx, .int .i64 by_] 35))).alloc (.cells #[] 35)
      have h2 := (hx.below.block _ (heap_lt h)).trans h
      simpa using h2
    · have h := heap_alloc_new (((w.alloc (.cells #[.int .i64 ax, .int .i64 ay] 35)).alloc (.cells #[.int .i64 bx, .int .i64 by_] 35)).alloc (.cells #[.int .i64 ax, .int .i64 ay, .int .i64 bx, .int .i64 by_] 35)) (.cells #[] 35)
      simpa using h
  case round =>
    obtain ⟨k, o1, o2, hk, rfl, ho1, ho2, hbl, hoc, hob, hdis, HC0⟩ := hrel
    subst ho1 ho2
    obtain ⟨wq, rfl⟩ : ∃ wq : World, wq = wr := ⟨_, rfl⟩
    have fb := HB.out wq (by (repeat (first | exact Ext.refl _ | assumption | apply Ext.alloc | apply Ext.drew | apply Ext.drewN | (refine Ext.trans ?_ (by assumption)))))
    have hkl := HL.out k
    by_cases hlt : k < l.length
    · have q0 : (k : Int) < (l.length : Int) := by omega
      obtain ⟨q1, q2, q3, q4, q5⟩ := idx_facts ((k : Int) + 1) (k + 1) l.length (by omega) (by omega) (by omega)
      have q6 : l ≠ [] := fun e => by rw [e] at hlt; simp at hlt
      have hm1 : (k + 1) % l.length < l.length := Nat.mod_lt _ (by omega)
      have hpr : RPts wq (some ⟨b, off, none⟩) l := hp.ext (by (repeat (first | exact Ext.refl _ | assumption | apply Ext.alloc | apply Ext.drew | apply Ext.drewN | (refine Ext.trans ?_ (by assumption)))))
      have HPK := hide (HF.out.pok hlt)
      have HD := hide (dblTo_succ hlt)
      cases hcr : crsE l ax ay bx by_ k
      · have HCL := hide (show Hid (clearTo l ax ay bx by_ (k + 1) = true) from hide (by rw [clearTo_succ, HC0.out, hcr]; rfl))
        have hcs := cross_sw hcr
        clear hcr
        go_wp2
        refine wp_flow (by kernel_rfl) (by kernel_rfl) (fun u => ⟨#[_, _, _, _, _, _, _, _, _, _, _, _, _, _, _, _, _, _, _, _, _, _, _, _, _, _, _, u 0, u 1, u 2, u 3, u 4, u 5, u 6, u 7, u 8, u 9, u 10, u 11, u 12, u 13, _, _, _, _, _, _, _, _, _, _, _, _, _, _, _, _, _, _, _, _, _, _, _, _, _, _, _, _, _, _, _, _, _, _, _, _, _, _, _, _, _, _, _, _, _, _, _, _, _, _, _, _, _, _, _, _, _, _, _, _, _, _, _, _, _, _, _, _, _, _, _, _, _, _, _, _, _, _, _, _, _, _, _, _, _, _, _, _, _, _, _, _, _, _, _, _, _, _, _, _, _, _, _, _, _, _, _, _, _, _, _, _], _⟩) (fun i => List.getD [_, _, _, _, _, _, _, _, _, _, _, _, _, _] i undef) [is ?v1_0, is ?v1_1, is ?v1_2, is ?v1_3, is ?v1_4, is ?v1_5, is ?v1_6, is ?v1_7, is ?v1_8, is ?v1_9, is ?v1_10, is ?v1_11, is ?v1_12, is ?v1_13] (fun w' => w'.cell? ⟨w.heap.size, 0, none⟩ = some (.int .i64 ax) ∧ w'.cell? ⟨w.heap.size, 1, none⟩ = some (.int .i64 ay) ∧ w.heap.size < w'.heap.size ∧ w'.cell? ⟨w.heap.size + 1, 0, none⟩ = some (.int .i64 bx) ∧ w'.cell? ⟨w.heap.size + 1, 1, none⟩ = some (.int .i64 by_) ∧ w.heap.size + 1 < w'.heap.size ∧ w'.cell? ⟨b, off + k * 2, none⟩ = some (.int .i64 (gx l (k))) ∧ w'.cell? ⟨b, off + k * 2 + 1, none⟩ = some (.int .i64 (gy l (k))) ∧ w'.cell? ⟨b, off + ((k + 1) % l.length) * 2, none⟩ = some (.int .i64 (gx l (((k + 1) % l.length)))) ∧ w'.cell? ⟨b, off + ((k + 1) % l.length) * 2 + 1, none⟩ = some (.int .i64 (gy l (((k + 1) % l.length))))) _ rfl ?hC1 ?hs1 ?hV1 ?fin1
        case hC1 => exact fun w' hx => (by have hq : Ext _ w' := hx; have hf0 := HB.out w' (by (repeat (first | exact Ext.refl _ | assumption | apply Ext.alloc | apply Ext.drew | apply Ext.drewN | (refine Ext.trans ?_ (by assumption))))); and_intros <;> first | exact hf0 | exact hf0.1 | exact hf0.2.1 | exact hf0.2.2.1 | exact hf0.2.2.2.1 | exact hf0.2.2.2.2.1 | exact hf0.2.2.2.2.2.1 | exact hf0.2.2.2.2.2.2.1 | exact hf0.2.2.2.2.2.2.2.1 | exact hf0.2.2.2.2.2.2.2.2.1 | exact hf0.2.2.2.2.2.2.2.2.2.1 | exact hf0.2.2.2.2.2.2.2.2.2.2.1 | exact hf0.2.2.2.2.2.2.2.2.2.2.2.1 | exact hf0.2.2.2.2.2.2.2.2.2.2.2.2.1 | exact hf0.2.2.2.2.2.2.2.2.2.2.2.2.2.1 | exact hf0.2 | exact hf0.2.2 | exact hf0.2.2.2 | exact hf0.2.2.2.2 | exact hf0.2.2.2.2.2 | exact hf0.2.2.2.2.2.2 | exact hf0.2.2.2.2.2.2.2 | exact hf0.2.2.2.2.2.2.2.2 | exact hf0.2.2.2.2.2.2.2.2.2 | exact hf0.2.2.2.2.2.2.2.2.2.2 | exact hf0.2.2.2.2.2.2.2.2.2.2.2 | exact hf0.2.2.2.2.2.2.2.2.2.2.2.2 | exact hf0.2.2.2.2.2.2.2.2.2.2.2.2.2 | exact ((hpr.ext hq).cell hlt).2.1 | exact ((hpr.ext hq).cell hlt).2.2 | exact ((hpr.ext hq).cell hm1).2.1 | exact ((hpr.ext hq).cell hm1).2.2)
        case hs1 =>
          repeat' (first
            | exact FSteps.nil
            | refine FSteps.cons ?_ ?_
            | (refine FStep.off_ _ _ _ rfl rfl ?_ (fun _ => rfl) ?_; (focus (intro u w hd; simp [vOf, is, Region.binds] at hd; simp [hd])); (intro w'; exact rfl); done)
            | ((first
                | refine FStep.plain rfl ?_
                | (refine FStep.on_ _ _ _ rfl rfl ?_ ?_; (focus (intro u w hd; simp [vOf, is, Region.binds] at hd; simp [hd]))))
               intro u w hW hC hd K hK
               (try simp [vOf, is, Region.binds] at hd)
               simp only [upd, Nat.reduceEqDiff, if_true, if_false] at hK
               (try simp only [hd] at hK)
               go_simp
               (first
                 | (refine hK _ _ ?_ ?_; (first | exact rfl); (repeat (first | exact Ext.refl _ | assumption | apply Ext.alloc | apply Ext.drew | apply Ext.drewN | (refine Ext.trans ?_ (by assumption)))))
                 | (go_at_call 61; refine (l03Cross_any _ _ _ _ _ _ _ _ _).mono ?_; rw [hcs]; rintro e w1 ⟨rfl, hb⟩; (try go_simp); refine hK _ _ ?_ ?_; (first | exact rfl); (repeat (first | exact Ext.refl _ | assumption | apply Ext.alloc | apply Ext.drew | apply Ext.drewN | (refine Ext.trans ?_ (by assumption))))))))
        case hV1 => (simp only [List.forall_mem_cons]; simp [stable_is])
        case fin1 =>
          intro u w2 hW2 hC2 hd
          simp only [AllV, is] at hd
          simp only [hd]
          clear hd
          obtain ⟨w7, rfl⟩ : ∃ w7 : World, w7 = w2 := ⟨_, rfl⟩
          clear hC2 fb q1 q2 q3 q4 q5 hcs
          have hp7 := hpr.ext (show Ext wq w7 by (repeat (first | exact Ext.refl _ | assumption | apply Ext.alloc | apply Ext.drew | apply Ext.drewN | (refine Ext.trans ?_ (by assumption)))))
          cases hcut : cutB ax ay bx by_ (gx l k) (gy l k)
          · go_wp2
            refine wp_flow_m (by kernel_rfl) (by kernel_rfl) (fun u => ⟨#[_, _, _, _, _, _, _, _, _, _, _, _, _, _, _, _, _, _, _, _, _, _, _, _, _, _, _, _, _, _, _, _, _, _, _, _, _, _, _, _, _, u 0, u 1, u 2, u 3, u 4, u 5, u 6, u 7, u 8, u 9, u 10, u 11, u 12, u 13, u 14, u 15, u 16, u 17, u 18, u 19, u 20, u 21, u 22, _, _, _, _, _, _, _, _, _, _, _, _, _, _, _, _, _, _, _, _, _, _, _, _, _, _, _, _, _, _, _, _, _, _, _, _, _, _, _, _, _, _, _, _, _, _, _, _, _, _, _, _, _, _, _, _, _, _, _, _, _, _, _, _, _, _, _, _, _, _, _, _, _, _, _, _, _, _, _, _, _, _, _, _, _, _, _, _, _], _⟩) (fun i => List.getD [_, _, _, _, _, _, _, _, _, _, _, _, _, _, _, _, _, _, _, _, _, _, _] i undef) (fun w' => w'.cell? ⟨w.heap.size, 0, none⟩ = some (.int .i64 ax) ∧ w'.cell? ⟨w.heap.size, 1, none⟩ = some (.int .i64 ay) ∧ w.heap.size < w'.heap.size ∧ w'.cell? ⟨w.heap.size + 1, 0, none⟩ = some (.int .i64 bx) ∧ w'.cell? ⟨w.heap.size + 1, 1, none⟩ = some (.int .i64 by_) ∧ w.heap.size + 1 < w'.heap.size ∧ w'.cell? ⟨b, off + k * 2, none⟩ = some (.int .i64 (gx l (k))) ∧ w'.cell? ⟨b, off + k * 2 + 1, none⟩ = some (.int .i64 (gy l (k)))) _ (fun u => u 22 = .bool false) ?hCm ?hhm ?finm
            case hCm => exact fun w' hx => (by have hq : Ext _ w' := hx; have hf0 := HB.out w' (by (repeat (first | exact Ext.refl _ | assumption | apply Ext.alloc | apply Ext.drew | apply Ext.drewN | (refine Ext.trans ?_ (by assumption))))); and_intros <;> first | exact hf0 | exact hf0.1 | exact hf0.2.1 | exact hf0.2.2.1 | exact hf0.2.2.2.1 | exact hf0.2.2.2.2.1 | exact hf0.2.2.2.2.2.1 | exact hf0.2.2.2.2.2.2.1 | exact hf0.2.2.2.2.2.2.2.1 | exact hf0.2.2.2.2.2.2.2.2.1 | exact hf0.2.2.2.2.2.2.2.2.2.1 | exact hf0.2.2.2.2.2.2.2.2.2.2.1 | exact hf0.2.2.2.2.2.2.2.2.2.2.2.1 | exact hf0.2.2.2.2.2.2.2.2.2.2.2.2.1 | exact hf0.2.2.2.2.2.2.2.2.2.2.2.2.2.1 | exact hf0.2 | exact hf0.2.2 | exact hf0.2.2.2 | exact hf0.2.2.2.2 | exact hf0.2.2.2.2.2 | exact hf0.2.2.2.2.2.2 | exact hf0.2.2.2.2.2.2.2 | exact hf0.2.2.2.2.2.2.2.2 | exact hf0.2.2.2.2.2.2.2.2.2 | exact hf0.2.2.2.2.2.2.2.2.2.2 | exact hf0.2.2.2.2.2.2.2.2.2.2.2 | exact hf0.2.2.2.2.2.2.2.2.2.2.2.2 | exact hf0.2.2.2.2.2.2.2.2.2.2.2.2.2 | exact ((hp7.ext hq).cell hlt).2.1 | exact ((hp7.ext hq).cell hlt).2.2)
            case hhm =>
              cases z1 : (gx l k == ax)
              · cases z3 : (gx l k == bx)
                · cases ho : onW (gx l k) (gy l k) ax ay bx by_
                  · skip
                    refine ⟨[is ?v3_0, is ?v3_1, is ?v3_2, is ?v3_3, is ?v3_4, is ?v3_5, is ?v3_6, is ?v3_7, is ?v3_8, is ?v3_9, is ?v3_10, is ?v3_11, is ?v3_12, is ?v3_13, is ?v3_14, is ?v3_15, is ?v3_16, is ?v3_17, is ?v3_18, is ?v3_19, is ?v3_20, is ?v3_21, is ?v3_22], rfl, ?hs3, ?hV3, ?hg3⟩
                    case hs3 =>
                      repeat' (first
                        | exact FSteps.nil
                        | refine FSteps.cons ?_ ?_
                        | (refine FStep.off_ _ _ _ rfl rfl ?_ (fun _ => rfl) ?_; (focus (intro u w hd; simp [vOf, is, Region.binds] at hd; simp [hd])); (intro w'; exact rfl); done)
                        | ((first
                            | refine FStep.plain rfl ?_
                            | (refine FStep.on_ _ _ _ rfl rfl ?_ ?_; (focus (intro u w hd; simp [vOf, is, Region.binds] at hd; simp [hd]))))
                           intro u w hW hC hd K hK
                           (try simp [vOf, is, Region.binds] at hd)
                           simp only [upd, Nat.reduceEqDiff, if_true, if_false] at hK
                           (try simp only [hd] at hK)
                           go_simp
                           (first
                             | (refine hK _ _ ?_ ?_; (first | exact rfl); (repeat (first | exact Ext.refl _ | assumption | apply Ext.alloc | apply Ext.drew | apply Ext.drewN | (refine Ext.trans ?_ (by assumption)))))
                             | (go_at_call 81; refine (sbet_any _ _ _ _ _ _ _).mono ?_; (try rw [ho]); rintro e w1 ⟨rfl, hb⟩; (try go_simp); refine hK _ _ ?_ ?_; (first | exact rfl); (repeat (first | exact Ext.refl _ | assumption | apply Ext.alloc | apply Ext.drew | apply Ext.drewN | (refine Ext.trans ?_ (by assumption))))))))
                    case hV3 => (simp only [List.forall_mem_cons]; simp [stable_is])
                    case hg3 => (intro u w hd; simp only [AllV, is] at hd; first | exact (by simp only [hd]) | simp [hd])
                  · exact absurd (hcut.symm.trans (cutB_on (by simp [z1]) (by simp [z3]) ho)) (by decide)
                · cases z4 : (gy l k == by_)
                  · cases ho : onW (gx l k) (gy l k) ax ay bx by_
                    · skip
                      refine ⟨[is ?v4_0, is ?v4_1, is ?v4_2, is ?v4_3, is ?v4_4, is ?v4_5, is ?v4_6, is ?v4_7, is ?v4_8, is ?v4_9, is ?v4_10, is ?v4_11, is ?v4_12, is ?v4_13, is ?v4_14, is ?v4_15, is ?v4_16, is ?v4_17, is ?v4_18, is ?v4_19, is ?v4_20, is ?v4_21, is ?v4_22], rfl, ?hs4, ?hV4, ?hg4⟩
                      case hs4 =>
                        repeat' (first
                          | exact FSteps.nil
                          | refine FSteps.cons ?_ ?_
                          | (refine FStep.off_ _ _ _ rfl rfl ?_ (fun _ => rfl) ?_; (focus (intro u w hd; simp [vOf, is, Region.binds] at hd; simp [hd])); (intro w'; exact rfl); done)
                          | ((first
                              | refine FStep.plain rfl ?_
                              | (refine FStep.on_ _ _ _ rfl rfl ?_ ?_; (focus (intro u w hd; simp [vOf, is, Region.binds] at hd; simp [hd]))))
                             intro u w hW hC hd K hK
                             (try simp [vOf, is, Region.binds] at hd)
                             simp only [upd, Nat.reduceEqDiff, if_true, if_false] at hK
                             (try simp only [hd] at hK)
                             go_simp
                             (first
                               | (refine hK _ _ ?_ ?_; (first | exact rfl); (repeat (first | exact Ext.refl _ | assumption | apply Ext.alloc | apply Ext.drew | apply Ext.drewN | (refine Ext.trans ?_ (by assumption)))))
                               | (go_at_call 81; refine (sbet_any _ _ _ _ _ _ _).mono ?_; (try rw [ho]); rintro e w1 ⟨rfl, hb⟩; (try go_simp); refine hK _ _ ?_ ?_; (first | exact rfl); (repeat (first | exact Ext.refl _ | assumption | apply Ext.alloc | apply Ext.drew | apply Ext.drewN | (refine Ext.trans ?_ (by assumption))))))))
                      case hV4 => (simp only [List.forall_mem_cons]; simp [stable_is])
                      case hg4 => (intro u w hd; simp only [AllV, is] at hd; first | exact (by simp only [hd]) | simp [hd])
                    · exact absurd (hcut.symm.trans (cutB_on (by simp [z1]) (by simp [z4]) ho)) (by decide)
                  · skip
                    refine ⟨[is ?v5_0, is ?v5_1, is ?v5_2, is ?v5_3, is ?v5_4, is ?v5_5, is ?v5_6, is ?v5_7, is ?v5_8, is ?v5_9, is ?v5_10, is ?v5_11, is ?v5_12, is ?v5_13, is ?v5_14, is ?v5_15, is ?v5_16, is ?v5_17, is ?v5_18, is ?v5_19, is ?v5_20, is ?v5_21, is ?v5_22], rfl, ?hs5, ?hV5, ?hg5⟩
                    case hs5 =>
                      repeat' (first
                        | exact FSteps.nil
                        | refine FSteps.cons ?_ ?_
                        | (refine FStep.off_ _ _ _ rfl rfl ?_ (fun _ => rfl) ?_; (focus (intro u w hd; simp [vOf, is, Region.binds] at hd; simp [hd])); (intro w'; exact rfl); done)
                        | ((first
                            | refine FStep.plain rfl ?_
                            | (refine FStep.on_ _ _ _ rfl rfl ?_ ?_; (focus (intro u w hd; simp [vOf, is, Region.binds] at hd; simp [hd]))))
                           intro u w hW hC hd K hK
                           (try simp [vOf, is, Region.binds] at hd)
                           simp only [upd, Nat.reduceEqDiff, if_true, if_false] at hK
                           (try simp only [hd] at hK)
                           go_simp
                           (first
                             | (refine hK _ _ ?_ ?_; (first | exact rfl); (repeat (first | exact Ext.refl _ | assumption | apply Ext.alloc | apply Ext.drew | apply Ext.drewN | (refine Ext.trans ?_ (by assumption)))))
                             | (go_at_call 81; refine (sbet_any _ _ _ _ _ _ _).mono ?_; (try rw [ho]); rintro e w1 ⟨rfl, hb⟩; (try go_simp); refine hK _ _ ?_ ?_; (first | exact rfl); (repeat (first | exact Ext.refl _ | assumption | apply Ext.alloc | apply Ext.drew | apply Ext.drewN | (refine Ext.trans ?_ (by assumption))))))))
                    case hV5 => (simp only [List.forall_mem_cons]; simp [stable_is])
                    case hg5 => (intro u w hd; simp only [AllV, is] at hd; first | exact (by simp only [hd]) | simp [hd])
              · cases z2 : (gy l k == ay)
                · cases z3 : (gx l k == bx)
                  · cases ho : onW (gx l k) (gy l k) ax ay bx by_
                    · skip
                      refine ⟨[is ?v6_0, is ?v6_1, is ?v6_2, is ?v6_3, is ?v6_4, is ?v6_5, is ?v6_6, is ?v6_7, is ?v6_8, is ?v6_9, is ?v6_10, is ?v6_11, is ?v6_12, is ?v6_13, is ?v6_14, is ?v6_15, is ?v6_16, is ?v6_17, is ?v6_18, is ?v6_19, is ?v6_20, is ?v6_21, is ?v6_22], rfl, ?hs6, ?hV6, ?hg6⟩
                      case hs6 =>
                        repeat' (first
                          | exact FSteps.nil
                          | refine FSteps.cons ?_ ?_
                          | (refine FStep.off_ _ _ _ rfl rfl ?_ (fun _ => rfl) ?_; (focus (intro u w hd; simp [vOf, is, Region.binds] at hd; simp [hd])); (intro w'; exact rfl); done)
                          | ((first
                              | refine FStep.plain rfl ?_
                              | (refine FStep.on_ _ _ _ rfl rfl ?_ ?_; (focus (intro u w hd; simp [vOf, is, Region.binds] at hd; simp [hd]))))
                             intro u w hW hC hd K hK
                             (try simp [vOf, is, Region.binds] at hd)
                             simp only [upd, Nat.reduceEqDiff, if_true, if_false] at hK
                             (try simp only [hd] at hK)
                             go_simp
                             (first
                               | (refine hK _ _ ?_ ?_; (first | exact rfl); (repeat (first | exact Ext.refl _ | assumption | apply Ext.alloc | apply Ext.drew | apply Ext.drewN | (refine Ext.trans ?_ (by assumption)))))
                               | (go_at_call 81; refine (sbet_any _ _ _ _ _ _ _).mono ?_; (try rw [ho]); rintro e w1 ⟨rfl, hb⟩; (try go_simp); refine hK _ _ ?_ ?_; (first | exact rfl); (repeat (first | exact Ext.refl _ | assumption | apply Ext.alloc | apply Ext.drew | apply Ext.drewN | (refine Ext.trans ?_ (by assumption))))))))
                      case hV6 => (simp only [List.forall_mem_cons]; simp [stable_is])
                      case hg6 => (intro u w hd; simp only [AllV, is] at hd; first | exact (by simp only [hd]) | simp [hd])
                    · exact absurd (hcut.symm.trans (cutB_on (by simp [z2]) (by simp [z3]) ho)) (by decide)
                  · cases z4 : (gy l k == by_)
                    · cases ho : onW (gx l k) (gy l k) ax ay bx by_
                      · skip
                        refine ⟨[is ?v7_0, is ?v7_1, is ?v7_2, is ?v7_3, is ?v7_4, is ?v7_5, is ?v7_6, is ?v7_7, is ?v7_8, is ?v7_9, is ?v7_10, is ?v7_11, is ?v7_12, is ?v7_13, is ?v7_14, is ?v7_15, is ?v7_16, is ?v7_17, is ?v7_18, is ?v7_19, is ?v7_20, is ?v7_21, is ?v7_22], rfl, ?hs7, ?hV7, ?hg7⟩
                        case hs7 =>
                          repeat' (first
                            | exact FSteps.nil
                            | refine FSteps.cons ?_ ?_
                            | (refine FStep.off_ _ _ _ rfl rfl ?_ (fun _ => rfl) ?_; (focus (intro u w hd; simp [vOf, is, Region.binds] at hd; simp [hd])); (intro w'; exact rfl); done)
                            | ((first
                                | refine FStep.plain rfl ?_
                                | (refine FStep.on_ _ _ _ rfl rfl ?_ ?_; (focus (intro u w hd; simp [vOf, is, Region.binds] at hd; simp [hd]))))
                               intro u w hW hC hd K hK
                               (try simp [vOf, is, Region.binds] at hd)
                               simp only [upd, Nat.reduceEqDiff, if_true, if_false] at hK
                               (try simp only [hd] at hK)
                               go_simp
                               (first
                                 | (refine hK _ _ ?_ ?_; (first | exact rfl); (repeat (first | exact Ext.refl _ | assumption | apply Ext.alloc | apply Ext.drew | apply Ext.drewN | (refine Ext.trans ?_ (by assumption)))))
                                 | (go_at_call 81; refine (sbet_any _ _ _ _ _ _ _).mono ?_; (try rw [ho]); rintro e w1 ⟨rfl, hb⟩; (try go_simp); refine hK _ _ ?_ ?_; (first | exact rfl); (repeat (first | exact Ext.refl _ | assumption | apply Ext.alloc | apply Ext.drew | apply Ext.drewN | (refine Ext.trans ?_ (by assumption))))))))
                        case hV7 => (simp only [List.forall_mem_cons]; simp [stable_is])
                        case hg7 => (intro u w hd; simp only [AllV, is] at hd; first | exact (by simp only [hd]) | simp [hd])
                      · exact absurd (hcut.symm.trans (cutB_on (by simp [z2]) (by simp [z4]) ho)) (by decide)
                    · skip
                      refine ⟨[is ?v8_0, is ?v8_1, is ?v8_2, is ?v8_3, is ?v8_4, is ?v8_5, is ?v8_6, is ?v8_7, is ?v8_8, is ?v8_9, is ?v8_10, is ?v8_11, is ?v8_12, is ?v8_13, is ?v8_14, is ?v8_15, is ?v8_16, is ?v8_17, is ?v8_18, is ?v8_19, is ?v8_20, is ?v8_21, is ?v8_22], rfl, ?hs8, ?hV8, ?hg8⟩
                      case hs8 =>
                        repeat' (first
                          | exact FSteps.nil
                          | refine FSteps.cons ?_ ?_
                          | (refine FStep.off_ _ _ _ rfl rfl ?_ (fun _ => rfl) ?_; (focus (intro u w hd; simp [vOf, is, Region.binds] at hd; simp [hd])); (intro w'; exact rfl); done)
                          | ((first
                              | refine FStep.plain rfl ?_
                              | (refine FStep.on_ _ _ _ rfl rfl ?_ ?_; (focus (intro u w hd; simp [vOf, is, Region.binds] at hd; simp [hd]))))
                             intro u w hW hC hd K hK
                             (try simp [vOf, is, Region.binds] at hd)
                             simp only [upd, Nat.reduceEqDiff, if_true, if_false] at hK
                             (try simp only [hd] at hK)
                             go_simp
                             (first
                               | (refine hK _ _ ?_ ?_; (first | exact rfl); (repeat (first | exact Ext.refl _ | assumption | apply Ext.alloc | apply Ext.drew | apply Ext.drewN | (refine Ext.trans ?_ (by assumption)))))
                               | (go_at_call 81; refine (sbet_any _ _ _ _ _ _ _).mono ?_; (try rw [ho]); rintro e w1 ⟨rfl, hb⟩; (try go_simp); refine hK _ _ ?_ ?_; (first | exact rfl); (repeat (first | exact Ext.refl _ | assumption | apply Ext.alloc | apply Ext.drew | apply Ext.drewN | (refine Ext.trans ?_ (by assumption))))))))
                      case hV8 => (simp only [List.forall_mem_cons]; simp [stable_is])
                      case hg8 => (intro u w hd; simp only [AllV, is] at hd; first | exact (by simp only [hd]) | simp [hd])
                · skip
                  refine ⟨[is ?v9_0, is ?v9_1, is ?v9_2, is ?v9_3, is ?v9_4, is ?v9_5, is ?v9_6, is ?v9_7, is ?v9_8, is ?v9_9, is ?v9_10, is ?v9_11, is ?v9_12, is ?v9_13, is ?v9_14, is ?v9_15, is ?v9_16, is ?v9_17, is ?v9_18, is ?v9_19, is ?v9_20, is ?v9_21, is ?v9_22], rfl, ?hs9, ?hV9, ?hg9⟩
                  case hs9 =>
                    repeat' (first
                      | exact FSteps.nil
                      | refine FSteps.cons ?_ ?_
                      | (refine FStep.off_ _ _ _ rfl rfl ?_ (fun _ => rfl) ?_; (focus (intro u w hd; simp [vOf, is, Region.binds] at hd; simp [hd])); (intro w'; exact rfl); done)
                      | ((first
                          | refine FStep.plain rfl ?_
                          | (refine FStep.on_ _ _ _ rfl rfl ?_ ?_; (focus (intro u w hd; simp [vOf, is, Region.binds] at hd; simp [hd]))))
                         intro u w hW hC hd K hK
                         (try simp [vOf, is, Region.binds] at hd)
                         simp only [upd, Nat.reduceEqDiff, if_true, if_false] at hK
                         (try simp only [hd] at hK)
                         go_simp
                         (first
                           | (refine hK _ _ ?_ ?_; (first | exact rfl); (repeat (first | exact Ext.refl _ | assumption | apply Ext.alloc | apply Ext.drew | apply Ext.drewN | (refine Ext.trans ?_ (by assumption)))))
                           | (go_at_call 81; refine (sbet_any _ _ _ _ _ _ _).mono ?_; (try rw [ho]); rintro e w1 ⟨rfl, hb⟩; (try go_simp); refine hK _ _ ?_ ?_; (first | exact rfl); (repeat (first | exact Ext.refl _ | assumption | apply Ext.alloc | apply Ext.drew | apply Ext.drewN | (refine Ext.trans ?_ (by assumption))))))))
                  case hV9 => (simp only [List.forall_mem_cons]; simp [stable_is])
                  case hg9 => (intro u w hd; simp only [AllV, is] at hd; first | exact (by simp only [hd]) | simp [hd])
            case finm =>
                intro u w9 hW2 hC2 hg
                simp only [hg]
                clear hC2 hg
                have HC := hide (cutsTo_off (ax := ax) (ay := ay) (bx := bx) (by_ := by_) hlt hcut)
                obtain ⟨hz9, hx9, hy9⟩ := (hpr.ext (show Ext wq w9 by (repeat (first | exact Ext.refl _ | assumption | apply Ext.alloc | apply Ext.drew | apply Ext.drewN | (refine Ext.trans ?_ (by assumption)))))).cell hlt
                go_wp2_with (first
                  | (go_at_call 82; refine (sDoubled_any _ _ _ HPK.out).mono ?_; rintro e w5 ⟨rfl, hb5⟩; have hsz5 := (show Ext ((w.alloc (.cells #[.int .i64 ax, .int .i64 ay] 35)).alloc (.cells #[.int .i64 bx, .int .i64 by_] 35)) w5 by (repeat (first | exact Ext.refl _ | assumption | apply Ext.alloc | apply Ext.drew | apply Ext.drewN | (refine Ext.trans ?_ (by assumption))))).size; simp at hsz5)
                  | (at_builtin; refine wpList_app _ rfl (.tmp 71) (.tmp 77) _ rfl (w.heap.size + 1 + 1) 35 i0 _ 2 16 Try.underlying27 hI hZ hS hY rfl (by omega) _ k (flat (dblTo l k)) (by rfl) (ownsRow_ext hob (by (repeat (first | exact Ext.refl _ | assumption | apply Ext.alloc | apply Ext.drew | apply Ext.drewN | (refine Ext.trans ?_ (by assumption)))))) ⟨w5.heap.size, 0, none⟩ 1 1 [.int .i64 (2 * gx l k), .int .i64 (2 * gy l k)] (by rfl) rfl (news_alloc w5 [.int .i64 (2 * gx l k), .int .i64 (2 * gy l k)] 35) (by simp [Value.oneCell']) (by unfold maxLen; omega) (by omega) (by simp; omega) ?_; intro v6 w6 hown6 hg6 hk6))
                have hE5 : Ext wq (w5.alloc (.cells #[.int .i64 (2 * gx l k), .int .i64 (2 * gy l k)] 35)) := by (repeat (first | exact Ext.refl _ | assumption | apply Ext.alloc | apply Ext.drew | apply Ext.drewN | (refine Ext.trans ?_ (by assumption))))
                have hE5' : Ext wq w5 := by (repeat (first | exact Ext.refl _ | assumption | apply Ext.alloc | apply Ext.drew | apply Ext.drewN | (refine Ext.trans ?_ (by assumption))))
                have hx6 : Ext ((w.alloc (.cells #[.int .i64 ax, .int .i64 ay] 35)).alloc (.cells #[.int .i64 bx, .int .i64 by_] 35)) w6 := ext_grown (hbl.trans hE5) hg6 (fun q hq => by have := (hob.lt q hq).1; simp; omega)
                have hc6 := (ownsRow_ext hoc hE5).kept hg6 (.inr hdis)
                have hd6 : o1.ownBlock ≠ v6.ownBlock := fun h => ownBlock_ne hoc hE5 (fun h => hdis h.symm) hk6 h.symm
                clear hob hoc hg6 hx9 hy9
                go_wp2
                go_roundw
                case rel => exact ⟨k + 1, _, _, by omega, by go_num, rfl, rfl, hx6, by rw [HC.out]; exact hc6, by rw [HD.out, flat_snoc]; exact hown6, hd6, HCL.out⟩
                case measure => simp [intOf]; omega
          · go_wp2
            refine wp_flow_m (by kernel_rfl) (by kernel_rfl) (fun u => ⟨#[_, _, _, _, _, _, _, _, _, _, _, _, _, _, _, _, _, _, _, _, _, _, _, _, _, _, _, _, _, _, _, _, _, _, _, _, _, _, _, _, _, u 0, u 1, u 2, u 3, u 4, u 5, u 6, u 7, u 8, u 9, u 10, u 11, u 12, u 13, u 14, u 15, u 16, u 17, u 18, u 19, u 20, u 21, u 22, _, _, _, _, _, _, _, _, _, _, _, _, _, _, _, _, _, _, _, _, _, _, _, _, _, _, _, _, _, _, _, _, _, _, _, _, _, _, _, _, _, _, _, _, _, _, _, _, _, _, _, _, _, _, _, _, _, _, _, _, _, _, _, _, _, _, _, _, _, _, _, _, _, _, _, _, _, _, _, _, _, _, _, _, _, _, _, _, _], _⟩) (fun i => List.getD [_, _, _, _, _, _, _, _, _, _, _, _, _, _, _, _, _, _, _, _, _, _, _] i undef) (fun w' => w'.cell? ⟨w.heap.size, 0, none⟩ = some (.int .i64 ax) ∧ w'.cell? ⟨w.heap.size, 1, none⟩ = some (.int .i64 ay) ∧ w.heap.size < w'.heap.size ∧ w'.cell? ⟨w.heap.size + 1, 0, none⟩ = some (.int .i64 bx) ∧ w'.cell? ⟨w.heap.size + 1, 1, none⟩ = some (.int .i64 by_) ∧ w.heap.size + 1 < w'.heap.size ∧ w'.cell? ⟨b, off + k * 2, none⟩ = some (.int .i64 (gx l (k))) ∧ w'.cell? ⟨b, off + k * 2 + 1, none⟩ = some (.int .i64 (gy l (k)))) _ (fun u => u 22 = .bool true) ?hCm ?hhm ?finm
            case hCm => exact fun w' hx => (by have hq : Ext _ w' := hx; have hf0 := HB.out w' (by (repeat (first | exact Ext.refl _ | assumption | apply Ext.alloc | apply Ext.drew | apply Ext.drewN | (refine Ext.trans ?_ (by assumption))))); and_intros <;> first | exact hf0 | exact hf0.1 | exact hf0.2.1 | exact hf0.2.2.1 | exact hf0.2.2.2.1 | exact hf0.2.2.2.2.1 | exact hf0.2.2.2.2.2.1 | exact hf0.2.2.2.2.2.2.1 | exact hf0.2.2.2.2.2.2.2.1 | exact hf0.2.2.2.2.2.2.2.2.1 | exact hf0.2.2.2.2.2.2.2.2.2.1 | exact hf0.2.2.2.2.2.2.2.2.2.2.1 | exact hf0.2.2.2.2.2.2.2.2.2.2.2.1 | exact hf0.2.2.2.2.2.2.2.2.2.2.2.2.1 | exact hf0.2.2.2.2.2.2.2.2.2.2.2.2.2.1 | exact hf0.2 | exact hf0.2.2 | exact hf0.2.2.2 | exact hf0.2.2.2.2 | exact hf0.2.2.2.2.2 | exact hf0.2.2.2.2.2.2 | exact hf0.2.2.2.2.2.2.2 | exact hf0.2.2.2.2.2.2.2.2 | exact hf0.2.2.2.2.2.2.2.2.2 | exact hf0.2.2.2.2.2.2.2.2.2.2 | exact hf0.2.2.2.2.2.2.2.2.2.2.2 | exact hf0.2.2.2.2.2.2.2.2.2.2.2.2 | exact hf0.2.2.2.2.2.2.2.2.2.2.2.2.2 | exact ((hp7.ext hq).cell hlt).2.1 | exact ((hp7.ext hq).cell hlt).2.2)
            case hhm =>
              cases z1 : (gx l k == ax)
              · cases z3 : (gx l k == bx)
                · cases ho : onW (gx l k) (gy l k) ax ay bx by_
                  · exact absurd (hcut.symm.trans (cutB_on (by simp [z1]) (by simp [z3]) ho)) (by decide)
                  · skip
                    refine ⟨[is ?v11_0, is ?v11_1, is ?v11_2, is ?v11_3, is ?v11_4, is ?v11_5, is ?v11_6, is ?v11_7, is ?v11_8, is ?v11_9, is ?v11_10, is ?v11_11, is ?v11_12, is ?v11_13, is ?v11_14, is ?v11_15, is ?v11_16, is ?v11_17, is ?v11_18, is ?v11_19, is ?v11_20, is ?v11_21, is ?v11_22], rfl, ?hs11, ?hV11, ?hg11⟩
                    case hs11 =>
                      repeat' (first
                        | exact FSteps.nil
                        | refine FSteps.cons ?_ ?_
                        | (refine FStep.off_ _ _ _ rfl rfl ?_ (fun _ => rfl) ?_; (focus (intro u w hd; simp [vOf, is, Region.binds] at hd; simp [hd])); (intro w'; exact rfl); done)
                        | ((first
                            | refine FStep.plain rfl ?_
                            | (refine FStep.on_ _ _ _ rfl rfl ?_ ?_; (focus (intro u w hd; simp [vOf, is, Region.binds] at hd; simp [hd]))))
                           intro u w hW hC hd K hK
                           (try simp [vOf, is, Region.binds] at hd)
                           simp only [upd, Nat.reduceEqDiff, if_true, if_false] at hK
                           (try simp only [hd] at hK)
                           go_simp
                           (first
                             | (refine hK _ _ ?_ ?_; (first | exact rfl); (repeat (first | exact Ext.refl _ | assumption | apply Ext.alloc | apply Ext.drew | apply Ext.drewN | (refine Ext.trans ?_ (by assumption)))))
                             | (go_at_call 81; refine (sbet_any _ _ _ _ _ _ _).mono ?_; (try rw [ho]); rintro e w1 ⟨rfl, hb⟩; (try go_simp); refine hK _ _ ?_ ?_; (first | exact rfl); (repeat (first | exact Ext.refl _ | assumption | apply Ext.alloc | apply Ext.drew | apply Ext.drewN | (refine Ext.trans ?_ (by assumption))))))))
                    case hV11 => (simp only [List.forall_mem_cons]; simp [stable_is])
                    case hg11 => (intro u w hd; simp only [AllV, is] at hd; first | exact (by simp only [hd]) | simp [hd])
                · cases z4 : (gy l k == by_)
                  · cases ho : onW (gx l k) (gy l k) ax ay bx by_
                    · exact absurd (hcut.symm.trans (cutB_on (by simp [z1]) (by simp [z4]) ho)) (by decide)
                    · skip
                      refine ⟨[is ?v12_0, is ?v12_1, is ?v12_2, is ?v12_3, is ?v12_4, is ?v12_5, is ?v12_6, is ?v12_7, is ?v12_8, is ?v12_9, is ?v12_10, is ?v12_11, is ?v12_12, is ?v12_13, is ?v12_14, is ?v12_15, is ?v12_16, is ?v12_17, is ?v12_18, is ?v12_19, is ?v12_20, is ?v12_21, is ?v12_22], rfl, ?hs12, ?hV12, ?hg12⟩
                      case hs12 =>
                        repeat' (first
                          | exact FSteps.nil
                          | refine FSteps.cons ?_ ?_
                          | (refine FStep.off_ _ _ _ rfl rfl ?_ (fun _ => rfl) ?_; (focus (intro u w hd; simp [vOf, is, Region.binds] at hd; simp [hd])); (intro w'; exact rfl); done)
                          | ((first
                              | refine FStep.plain rfl ?_
                              | (refine FStep.on_ _ _ _ rfl rfl ?_ ?_; (focus (intro u w hd; simp [vOf, is, Region.binds] at hd; simp [hd]))))
                             intro u w hW hC hd K hK
                             (try simp [vOf, is, Region.binds] at hd)
                             simp only [upd, Nat.reduceEqDiff, if_true, if_false] at hK
                             (try simp only [hd] at hK)
                             go_simp
                             (first
                               | (refine hK _ _ ?_ ?_; (first | exact rfl); (repeat (first | exact Ext.refl _ | assumption | apply Ext.alloc | apply Ext.drew | apply Ext.drewN | (refine Ext.trans ?_ (by assumption)))))
                               | (go_at_call 81; refine (sbet_any _ _ _ _ _ _ _).mono ?_; (try rw [ho]); rintro e w1 ⟨rfl, hb⟩; (try go_simp); refine hK _ _ ?_ ?_; (first | exact rfl); (repeat (first | exact Ext.refl _ | assumption | apply Ext.alloc | apply Ext.drew | apply Ext.drewN | (refine Ext.trans ?_ (by assumption))))))))
                      case hV12 => (simp only [List.forall_mem_cons]; simp [stable_is])
                      case hg12 => (intro u w hd; simp only [AllV, is] at hd; first | exact (by simp only [hd]) | simp [hd])
                  · exact absurd (hcut.symm.trans (cutB_b z3 z4)) (by decide)
              · cases z2 : (gy l k == ay)
                · cases z3 : (gx l k == bx)
                  · cases ho : onW (gx l k) (gy l k) ax ay bx by_
                    · exact absurd (hcut.symm.trans (cutB_on (by simp [z2]) (by simp [z3]) ho)) (by decide)
                    · skip
                      refine ⟨[is ?v13_0, is ?v13_1, is ?v13_2, is ?v13_3, is ?v13_4, is ?v13_5, is ?v13_6, is ?v13_7, is ?v13_8, is ?v13_9, is ?v13_10, is ?v13_11, is ?v13_12, is ?v13_13, is ?v13_14, is ?v13_15, is ?v13_16, is ?v13_17, is ?v13_18, is ?v13_19, is ?v13_20, is ?v13_21, is ?v13_22], rfl, ?hs13, ?hV13, ?hg13⟩
                      case hs13 =>
                        repeat' (first
                          | exact FSteps.nil
                          | refine FSteps.cons ?_ ?_
                          | (refine FStep.off_ _ _ _ rfl rfl ?_ (fun _ => rfl) ?_; (focus (intro u w hd; simp [vOf, is, Region.binds] at hd; simp [hd])); (intro w'; exact rfl); done)
                          | ((first
                              | refine FStep.plain rfl ?_
                              | (refine FStep.on_ _ _ _ rfl rfl ?_ ?_; (focus (intro u w hd; simp [vOf, is, Region.binds] at hd; simp [hd]))))
                             intro u w hW hC hd K hK
                             (try simp [vOf, is, Region.binds] at hd)
                             simp only [upd, Nat.reduceEqDiff, if_true, if_false] at hK
                             (try simp only [hd] at hK)
                             go_simp
                             (first
                               | (refine hK _ _ ?_ ?_; (first | exact rfl); (repeat (first | exact Ext.refl _ | assumption | apply Ext.alloc | apply Ext.drew | apply Ext.drewN | (refine Ext.trans ?_ (by assumption)))))
                               | (go_at_call 81; refine (sbet_any _ _ _ _ _ _ _).mono ?_; (try rw [ho]); rintro e w1 ⟨rfl, hb⟩; (try go_simp); refine hK _ _ ?_ ?_; (first | exact rfl); (repeat (first | exact Ext.refl _ | assumption | apply Ext.alloc | apply Ext.drew | apply Ext.drewN | (refine Ext.trans ?_ (by assumption))))))))
                      case hV13 => (simp only [List.forall_mem_cons]; simp [stable_is])
                      case hg13 => (intro u w hd; simp only [AllV, is] at hd; first | exact (by simp only [hd]) | simp [hd])
                  · cases z4 : (gy l k == by_)
                    · cases ho : onW (gx l k) (gy l k) ax ay bx by_
                      · exact absurd (hcut.symm.trans (cutB_on (by simp [z2]) (by simp [z4]) ho)) (by decide)
                      · skip
                        refine ⟨[is ?v14_0, is ?v14_1, is ?v14_2, is ?v14_3, is ?v14_4, is ?v14_5, is ?v14_6, is ?v14_7, is ?v14_8, is ?v14_9, is ?v14_10, is ?v14_11, is ?v14_12, is ?v14_13, is ?v14_14, is ?v14_15, is ?v14_16, is ?v14_17, is ?v14_18, is ?v14_19, is ?v14_20, is ?v14_21, is ?v14_22], rfl, ?hs14, ?hV14, ?hg14⟩
                        case hs14 =>
                          repeat' (first
                            | exact FSteps.nil
                            | refine FSteps.cons ?_ ?_
                            | (refine FStep.off_ _ _ _ rfl rfl ?_ (fun _ => rfl) ?_; (focus (intro u w hd; simp [vOf, is, Region.binds] at hd; simp [hd])); (intro w'; exact rfl); done)
                            | ((first
                                | refine FStep.plain rfl ?_
                                | (refine FStep.on_ _ _ _ rfl rfl ?_ ?_; (focus (intro u w hd; simp [vOf, is, Region.binds] at hd; simp [hd]))))
                               intro u w hW hC hd K hK
                               (try simp [vOf, is, Region.binds] at hd)
                               simp only [upd, Nat.reduceEqDiff, if_true, if_false] at hK
                               (try simp only [hd] at hK)
                               go_simp
                               (first
                                 | (refine hK _ _ ?_ ?_; (first | exact rfl); (repeat (first | exact Ext.refl _ | assumption | apply Ext.alloc | apply Ext.drew | apply Ext.drewN | (refine Ext.trans ?_ (by assumption)))))
                                 | (go_at_call 81; refine (sbet_any _ _ _ _ _ _ _).mono ?_; (try rw [ho]); rintro e w1 ⟨rfl, hb⟩; (try go_simp); refine hK _ _ ?_ ?_; (first | exact rfl); (repeat (first | exact Ext.refl _ | assumption | apply Ext.alloc | apply Ext.drew | apply Ext.drewN | (refine Ext.trans ?_ (by assumption))))))))
                        case hV14 => (simp only [List.forall_mem_cons]; simp [stable_is])
                        case hg14 => (intro u w hd; simp only [AllV, is] at hd; first | exact (by simp only [hd]) | simp [hd])
                    · exact absurd (hcut.symm.trans (cutB_b z3 z4)) (by decide)
                · exact absurd (hcut.symm.trans (cutB_a z1 z2)) (by decide)
            case finm =>
                intro u w9 hW2 hC2 hg
                simp only [hg]
                clear hC2 hg
                have HC := hide (cutsTo_on (ax := ax) (ay := ay) (bx := bx) (by_ := by_) hlt hcut)
                obtain ⟨hz9, hx9, hy9⟩ := (hpr.ext (show Ext wq w9 by (repeat (first | exact Ext.refl _ | assumption | apply Ext.alloc | apply Ext.drew | apply Ext.drewN | (refine Ext.trans ?_ (by assumption)))))).cell hlt
                have hE9 : Ext wq (w9.alloc (.cells #[.int .i64 (gx l k), .int .i64 (gy l k)] 35)) := by (repeat (first | exact Ext.refl _ | assumption | apply Ext.alloc | apply Ext.drew | apply Ext.drewN | (refine Ext.trans ?_ (by assumption))))
                have hsz9 := (show Ext ((w.alloc (.cells #[.int .i64 ax, .int .i64 ay] 35)).alloc (.cells #[.int .i64 bx, .int .i64 by_] 35)) w9 by (repeat (first | exact Ext.refl _ | assumption | apply Ext.alloc | apply Ext.drew | apply Ext.drewN | (refine Ext.trans ?_ (by assumption))))).size
                simp at hsz9
                go_wp2_with (first
                  | (at_builtin; refine wpList_app _ rfl (.tmp 64) (.tmp 69) _ rfl (w.heap.size + 1 + 1) 35 i0 _ 2 16 Try.underlying27 hI hZ hS hY rfl (by omega) _ _ (flat (cutsTo l ax ay bx by_ k)) (by rfl) (ownsRow_ext hoc hE9) ⟨w9.heap.size, 0, none⟩ 1 1 [.int .i64 (gx l k), .int .i64 (gy l k)] (by rfl) rfl (news_alloc w9 [.int .i64 (gx l k), .int .i64 (gy l k)] 35) (by simp [Value.oneCell']) (by unfold maxLen; omega) (by omega) (by simp; omega) ?_; intro v3 w3 hown3 hg3 hk3; have hx3 : Ext ((w.alloc (.cells #[.int .i64 ax, .int .i64 ay] 35)).alloc (.cells #[.int .i64 bx, .int .i64 by_] 35)) w3 := ext_grown (hbl.trans hE9) hg3 (fun q hq => by have := (hoc.lt q hq).1; simp; omega); have hob3 := (ownsRow_ext hob hE9).kept hg3 (.inr (fun h => hdis h.symm)); have hd3 : v3.ownBlock ≠ o2.ownBlock := ownBlock_ne hob hE9 hdis hk3; clear hoc hob hg3 hk3 hx9 hy9 hz9 hE9 hdis; obtain ⟨hz9, hx9, hy9⟩ := (hp.ext (show Ext w w3 by (repeat (first | exact Ext.refl _ | assumption | apply Ext.alloc | apply Ext.drew | apply Ext.drewN | (refine Ext.trans ?_ (by assumption)))))).cell hlt)
                  | (go_at_call 82; refine (sDoubled_any _ _ _ HPK.out).mono ?_; rintro e w5 ⟨rfl, hb5⟩; have hsz5 := (show Ext ((w.alloc (.cells #[.int .i64 ax, .int .i64 ay] 35)).alloc (.cells #[.int .i64 bx, .int .i64 by_] 35)) w5 by (repeat (first | exact Ext.refl _ | assumption | apply Ext.alloc | apply Ext.drew | apply Ext.drewN | (refine Ext.trans ?_ (by assumption))))).size; simp at hsz5)
                  | (at_builtin; refine wpList_app _ rfl (.tmp 71) (.tmp 77) _ rfl (w.heap.size + 1 + 1) 35 i0 _ 2 16 Try.underlying27 hI hZ hS hY rfl (by omega) _ k (flat (dblTo l k)) (by rfl) (ownsRow_ext hob3 (by (repeat (first | exact Ext.refl _ | assumption | apply Ext.alloc | apply Ext.drew | apply Ext.drewN | (refine Ext.trans ?_ (by assumption)))))) ⟨w5.heap.size, 0, none⟩ 1 1 [.int .i64 (2 * gx l k), .int .i64 (2 * gy l k)] (by rfl) rfl (news_alloc w5 [.int .i64 (2 * gx l k), .int .i64 (2 * gy l k)] 35) (by simp [Value.oneCell']) (by unfold maxLen; omega) (by omega) (by simp; omega) ?_; intro v6 w6 hown6 hg6 hk6))
                have hE5 : Ext w3 (w5.alloc (.cells #[.int .i64 (2 * gx l k), .int .i64 (2 * gy l k)] 35)) := by (repeat (first | exact Ext.refl _ | assumption | apply Ext.alloc | apply Ext.drew | apply Ext.drewN | (refine Ext.trans ?_ (by assumption))))
                have hx6 : Ext ((w.alloc (.cells #[.int .i64 ax, .int .i64 ay] 35)).alloc (.cells #[.int .i64 bx, .int .i64 by_] 35)) w6 := ext_grown (hx3.trans hE5) hg6 (fun q hq => by have := (hob3.lt q hq).1; simp; omega)
                have hc6 := (ownsRow_ext hown3 hE5).kept hg6 (.inr hd3)
                have hd6 : v3.ownBlock ≠ v6.ownBlock := fun h => ownBlock_ne hown3 hE5 (fun h => hd3 h.symm) hk6 h.symm
                clear hown3 hob3 hg6 hx9 hy9
                go_wp2
                go_roundw
                case rel => exact ⟨k + 1, _, _, by omega, by go_num, rfl, rfl, hx6, by rw [HC.out, flat_snoc, List.length_append]; exact hc6, by rw [HD.out, flat_snoc]; exact hown6, hd6, HCL.out⟩
                case measure => simp [intOf]; omega
      · have HV := hide (seesV_cross hlt hcr)
        have hcs := cross_sw hcr
        clear hcr
        go_wp2
        refine wp_flow (by kernel_rfl) (by kernel_rfl) (fun u => ⟨#[_, _, _, _, _, _, _, _, _, _, _, _, _, _, _, _, _, _, _, _, _, _, _, _, _, _, _, u 0, u 1, u 2, u 3, u 4, u 5, u 6, u 7, u 8, u 9, u 10, u 11, u 12, u 13, _, _, _, _, _, _, _, _, _, _, _, _, _, _, _, _, _, _, _, _, _, _, _, _, _, _, _, _, _, _, _, _, _, _, _, _, _, _, _, _, _, _, _, _, _, _, _, _, _, _, _, _, _, _, _, _, _, _, _, _, _, _, _, _, _, _, _, _, _, _, _, _, _, _, _, _, _, _, _, _, _, _, _, _, _, _, _, _, _, _, _, _, _, _, _, _, _, _, _, _, _, _, _, _, _, _, _, _, _, _, _, _], _⟩) (fun i => List.getD [_, _, _, _, _, _, _, _, _, _, _, _, _, _] i undef) [is ?v15_0, is ?v15_1, is ?v15_2, is ?v15_3, is ?v15_4, is ?v15_5, is ?v15_6, is ?v15_7, is ?v15_8, is ?v15_9, is ?v15_10, is ?v15_11, is ?v15_12, is ?v15_13] (fun w' => w'.cell? ⟨w.heap.size, 0, none⟩ = some (.int .i64 ax) ∧ w'.cell? ⟨w.heap.size, 1, none⟩ = some (.int .i64 ay) ∧ w.heap.size < w'.heap.size ∧ w'.cell? ⟨w.heap.size + 1, 0, none⟩ = some (.int .i64 bx) ∧ w'.cell? ⟨w.heap.size + 1, 1, none⟩ = some (.int .i64 by_) ∧ w.heap.size + 1 < w'.heap.size ∧ w'.cell? ⟨b, off + k * 2, none⟩ = some (.int .i64 (gx l (k))) ∧ w'.cell? ⟨b, off + k * 2 + 1, none⟩ = some (.int .i64 (gy l (k))) ∧ w'.cell? ⟨b, off + ((k + 1) % l.length) * 2, none⟩ = some (.int .i64 (gx l (((k + 1) % l.length)))) ∧ w'.cell? ⟨b, off + ((k + 1) % l.length) * 2 + 1, none⟩ = some (.int .i64 (gy l (((k + 1) % l.length))))) _ rfl ?hC15 ?hs15 ?hV15 ?fin15
        case hC15 => exact fun w' hx => (by have hq : Ext _ w' := hx; have hf0 := HB.out w' (by (repeat (first | exact Ext.refl _ | assumption | apply Ext.alloc | apply Ext.drew | apply Ext.drewN | (refine Ext.trans ?_ (by assumption))))); and_intros <;> first | exact hf0 | exact hf0.1 | exact hf0.2.1 | exact hf0.2.2.1 | exact hf0.2.2.2.1 | exact hf0.2.2.2.2.1 | exact hf0.2.2.2.2.2.1 | exact hf0.2.2.2.2.2.2.1 | exact hf0.2.2.2.2.2.2.2.1 | exact hf0.2.2.2.2.2.2.2.2.1 | exact hf0.2.2.2.2.2.2.2.2.2.1 | exact hf0.2.2.2.2.2.2.2.2.2.2.1 | exact hf0.2.2.2.2.2.2.2.2.2.2.2.1 | exact hf0.2.2.2.2.2.2.2.2.2.2.2.2.1 | exact hf0.2.2.2.2.2.2.2.2.2.2.2.2.2.1 | exact hf0.2 | exact hf0.2.2 | exact hf0.2.2.2 | exact hf0.2.2.2.2 | exact hf0.2.2.2.2.2 | exact hf0.2.2.2.2.2.2 | exact hf0.2.2.2.2.2.2.2 | exact hf0.2.2.2.2.2.2.2.2 | exact hf0.2.2.2.2.2.2.2.2.2 | exact hf0.2.2.2.2.2.2.2.2.2.2 | exact hf0.2.2.2.2.2.2.2.2.2.2.2 | exact hf0.2.2.2.2.2.2.2.2.2.2.2.2 | exact hf0.2.2.2.2.2.2.2.2.2.2.2.2.2 | exact ((hpr.ext hq).cell hlt).2.1 | exact ((hpr.ext hq).cell hlt).2.2 | exact ((hpr.ext hq).cell hm1).2.1 | exact ((hpr.ext hq).cell hm1).2.2)
        case hs15 =>
          repeat' (first
            | exact FSteps.nil
            | refine FSteps.cons ?_ ?_
            | (refine FStep.off_ _ _ _ rfl rfl ?_ (fun _ => rfl) ?_; (focus (intro u w hd; simp [vOf, is, Region.binds] at hd; simp [hd])); (intro w'; exact rfl); done)
            | ((first
                | refine FStep.plain rfl ?_
                | (refine FStep.on_ _ _ _ rfl rfl ?_ ?_; (focus (intro u w hd; simp [vOf, is, Region.binds] at hd; simp [hd]))))
               intro u w hW hC hd K hK
               (try simp [vOf, is, Region.binds] at hd)
               simp only [upd, Nat.reduceEqDiff, if_true, if_false] at hK
               (try simp only [hd] at hK)
               go_simp
               (first
                 | (refine hK _ _ ?_ ?_; (first | exact rfl); (repeat (first | exact Ext.refl _ | assumption | apply Ext.alloc | apply Ext.drew | apply Ext.drewN | (refine Ext.trans ?_ (by assumption)))))
                 | (go_at_call 61; refine (l03Cross_any _ _ _ _ _ _ _ _ _).mono ?_; rw [hcs]; rintro e w1 ⟨rfl, hb⟩; (try go_simp); refine hK _ _ ?_ ?_; (first | exact rfl); (repeat (first | exact Ext.refl _ | assumption | apply Ext.alloc | apply Ext.drew | apply Ext.drewN | (refine Ext.trans ?_ (by assumption))))))))
        case hV15 => (simp only [List.forall_mem_cons]; simp [stable_is])
        case fin15 =>
          intro u w2 hW2 hC2 hd
          simp only [AllV, is] at hd
          simp only [hd]
          clear hd
          go_wp2
          go_ret
          exact ⟨ret_bool (by rw [HV.out]), by (repeat (first | exact Ext.refl _ | assumption | apply Ext.alloc | apply Ext.drew | apply Ext.drewN | (refine Ext.trans ?_ (by assumption))))⟩
    · have q2 : ¬ (k : Int) < (l.length : Int) := by omega
      have e : k = l.length := by omega
      obtain ⟨A1, c1, rfl⟩ := ownsRow_slice hoc
      obtain ⟨A2, c2, rfl⟩ := ownsRow_slice hob
      have HCC := hide (show clearTo l ax ay bx by_ l.length = true by rw [← e]; exact HC0.out)
      have hr1 : RPts wq A1 (cutsTo l ax ay bx by_ k) := (OwnS.of_own hoc).2.r (Nat.le_refl _)
      have hr2 : RPts wq A2 (dbl l) := by have := (OwnS.of_own hob).2.r (Nat.le_refl _); rw [e] at this; exact this
      have HKL := hide (show k = (dbl l).length by rw [dbl_length, e])
      have hCc : cutsTo l ax ay bx by_ k = cuts l ax ay bx by_ := by rw [e]; rfl
      clear hoc hob hdis HC0
      generalize cutsTo l ax ay bx by_ k = C at *
      have HPC := hide (show ∀ i, i < C.length → pok (gx C i) (gy C i) = true from fun i h => by have hm := g_mem h; rw [hCc] at hm; have := (cuts_on HF.out HPA.out HPB.out _ hm).1; rwa [hCc])
      have HBAD := hide (fun (i m : Nat) (h : i < C.length) (h2 : m < i) (h3 : badS l C i m = true) => seesV_bad (ax := ax) (ay := ay) (bx := bx) (by_ := by_) (l := l) (i := i) (k := m) (hCc ▸ h) h2 (hCc ▸ h3))
      have HEND := hide (fun (h : goodTo l C C.length = true) => (show seesV l ax ay bx by_ = true by unfold seesV; rw [HCC.out, ← hCc, h]; rfl))
      have HLC := hide hCc
      clear hCc e
      obtain ⟨b1, off1, rfl⟩ := hr1.some_ (by omega)
      go_wp2
      go_loopw [11] (fun iv wr => ∃ i : Nat, i ≤ C.length ∧ iv = .int .i64 i ∧ Ext wq wr ∧ Hid (goodTo l C i = true)) (fun iv _ => C.length - (intOf iv).toNat)
      case atStart => exact ⟨0, Nat.zero_le _, rfl, Ext.refl _, hide rfl⟩
      case round =>
        obtain ⟨i, hi, rfl, hbi, HG⟩ := hrel
        obtain ⟨wi, rfl⟩ : ∃ wi : World, wi = wr := ⟨_, rfl⟩
        by_cases hli : i < C.length
        · have q3 : (i : Int) < (C.length : Int) := by omega
          go_wp2
          go_loopw [12] (fun kv wr => ∃ m : Nat, m ≤ i ∧ kv = .int .i64 m ∧ Ext wi wr ∧ Hid (goodRow l C i m = true)) (fun kv _ => i - (intOf kv).toNat)
          case atStart => exact ⟨0, Nat.zero_le _, rfl, Ext.refl _, hide rfl⟩
          case round =>
            obtain ⟨m, hm, rfl, hbm, HG2⟩ := hrel
            obtain ⟨wm, rfl⟩ : ∃ wm : World, wm = wr := ⟨_, rfl⟩
            by_cases hlm : m < i
            · have q4 : (m : Int) < (i : Int) := by omega
              have hlm2 : m < C.length := by omega
              have q5 : (m : Int) < (C.length : Int) := by omega
              go_wp2
              go_loopw [13, 14] (fun fv jv wr => ∃ j : Nat, j ≤ C.length ∧ jv = .int .i64 j ∧ fv = .bool (freeTo C i m j) ∧ Ext wm wr) (fun _ jv _ => C.length - (intOf jv).toNat)
              case atStart => exact ⟨0, Nat.zero_le _, rfl, rfl, Ext.refl _⟩
              case round =>
                obtain ⟨j, hj, rfl, rfl, hbj⟩ := hrel
                obtain ⟨wj, rfl⟩ : ∃ wj : World, wj = wr := ⟨_, rfl⟩
                have hsj := hr1.ext (show Ext wq wj by (repeat (first | exact Ext.refl _ | assumption | apply Ext.alloc | apply Ext.drew | apply Ext.drewN | (refine Ext.trans ?_ (by assumption)))))
                by_cases hlj : j < C.length
                · have q6 : (j : Int) < (C.length : Int) := by omega
                  have hji : ((j : Int) == (i : Int)) = (j == i) := by rw [Bool.eq_iff_iff]; simp; omega
                  have hjm : ((j : Int) == (m : Int)) = (j == m) := by rw [Bool.eq_iff_iff]; simp; omega
                  have HSU := hide (freeTo_succ C i m j)
                  cases hn : freeTo C i m (j + 1)
                  · have HN := hide hn
                    rw [HSU.out] at hn
                    go_wp2
                    refine wp_flow_tail_m 27 (by kernel_rfl) (by kernel_rfl) (by kernel_rfl) (by kernel_rfl) (fun u => ⟨#[_, _, _, _, _, _, _, _, _, _, _, _, _, _, _, _, _, _, _, _, _, _, _, _, _, _, _, _, _, _, _, _, _, _, _, _, _, _, _, _, _, _, _, _, _, _, _, _, _, _, _, _, _, _, _, _, _, _, _, _, _, _, _, _, _, _, _, _, _, _, _, _, _, _, _, _, _, _, _, _, _, _, _, _, _, _, _, _, _, _, _, _, _, _, _, _, u 0, u 1, u 2, u 3, u 4, u 5, u 6, u 7, u 8, u 9, u 10, u 11, u 12, u 13, u 14, u 15, u 16, u 17, u 18, u 19, u 20, u 21, u 22, u 23, u 24, u 25, u 26, _, _, _, _, _, _, _, _, _, _, _, _, _, _, _, _, _, _, _, _, _, _, _, _, _, _, _, _, _, _], _⟩) (fun i => List.getD [_, _, _, _, _, _, _, _, _, _, _, _, _, _, _, _, _, _, _, _, _, _, _, _, _, _, _] i undef) (fun w' => w'.cell? ⟨b1, off1 + j * 2, none⟩ = some (.int .i64 (gx C (j))) ∧ w'.cell? ⟨b1, off1 + j * 2 + 1, none⟩ = some (.int .i64 (gy C (j))) ∧ w'.cell? ⟨b1, off1 + i * 2, none⟩ = some (.int .i64 (gx C (i))) ∧ w'.cell? ⟨b1, off1 + i * 2 + 1, none⟩ = some (.int .i64 (gy C (i))) ∧ w'.cell? ⟨b1, off1 + m * 2, none⟩ = some (.int .i64 (gx C (m))) ∧ w'.cell? ⟨b1, off1 + m * 2 + 1, none⟩ = some (.int .i64 (gy C (m)))) _ (fun u => u 26 = .bool false) ?hCm ?hhm ?finm
                    case hCm => exact fun w' hx => (by have h := hsj.ext hx; and_intros <;> first | exact (h.cell hlj).2.1 | exact (h.cell hlj).2.2 | exact (h.cell hli).2.1 | exact (h.cell hli).2.2 | exact (h.cell hlm2).2.1 | exact (h.cell hlm2).2.2)
                    case hhm =>
                      cases hfr : freeTo C i m j
                      · clear hn
                        refine ⟨[is ?v17_0, is ?v17_1, is ?v17_2, is ?v17_3, is ?v17_4, is ?v17_5, is ?v17_6, is ?v17_7, is ?v17_8, is ?v17_9, is ?v17_10, is ?v17_11, is ?v17_12, is ?v17_13, is ?v17_14, is ?v17_15, is ?v17_16, is ?v17_17, is ?v17_18, is ?v17_19, is ?v17_20, is ?v17_21, is ?v17_22, is ?v17_23, is ?v17_24, is ?v17_25, is ?v17_26], rfl, ?hs17, ?hV17, ?hg17⟩
                        case hs17 =>
                          repeat' (first
                            | exact FSteps.nil
                            | refine FSteps.cons ?_ ?_
                            | (refine FStep.off_ _ _ _ rfl rfl ?_ (fun _ => rfl) ?_; (focus (intro u w hd; simp [vOf, is, Region.binds] at hd; simp [hd])); (intro w'; exact rfl); done)
                            | ((first
                                | refine FStep.plain rfl ?_
                                | (refine FStep.on_ _ _ _ rfl rfl ?_ ?_; (focus (intro u w hd; simp [vOf, is, Region.binds] at hd; simp [hd]))))
                               intro u w hW hC hd K hK
                               (try simp [vOf, is, Region.binds] at hd)
                               simp only [upd, Nat.reduceEqDiff, if_true, if_false] at hK
                               (try simp only [hd] at hK)
                               go_simp
                               (first
                                 | (refine hK _ _ ?_ ?_; (first | exact rfl); (repeat (first | exact Ext.refl _ | assumption | apply Ext.alloc | apply Ext.drew | apply Ext.drewN | (refine Ext.trans ?_ (by assumption)))))
                                 | (go_at_call 81; refine (sbet_any _ _ _ _ _ _ _).mono ?_; (try rw [ho]); rintro e w1 ⟨rfl, hb⟩; (try go_simp); refine hK _ _ ?_ ?_; (first | exact rfl); (repeat (first | exact Ext.refl _ | assumption | apply Ext.alloc | apply Ext.drew | apply Ext.drewN | (refine Ext.trans ?_ (by assumption))))))))
                        case hV17 => (simp only [List.forall_mem_cons]; simp [stable_is])
                        case hg17 => (intro u w hd; simp only [AllV, is] at hd; first | exact (by simp only [hd]) | simp [hd])
                      · cases z1 : (j == i)
                        · rw [z1] at hji
                          cases z2 : (j == m)
                          · rw [z2] at hjm
                            cases ho : onW (gx C j) (gy C j) (gx C i) (gy C i) (gx C m) (gy C m)
                            · rw [hfr, z1, z2, ho] at hn; cases hn
                            · clear hn
                              refine ⟨[is ?v18_0, is ?v18_1, is ?v18_2, is ?v18_3, is ?v18_4, is ?v18_5, is ?v18_6, is ?v18_7, is ?v18_8, is ?v18_9, is ?v18_10, is ?v18_11, is ?v18_12, is ?v18_13, is ?v18_14, is ?v18_15, is ?v18_16, is ?v18_17, is ?v18_18, is ?v18_19, is ?v18_20, is ?v18_21, is ?v18_22, is ?v18_23, is ?v18_24, is ?v18_25, is ?v18_26], rfl, ?hs18, ?hV18, ?hg18⟩
                              case hs18 =>
                                repeat' (first
                                  | exact FSteps.nil
                                  | refine FSteps.cons ?_ ?_
                                  | (refine FStep.off_ _ _ _ rfl rfl ?_ (fun _ => rfl) ?_; (focus (intro u w hd; simp [vOf, is, Region.binds] at hd; simp [hd])); (intro w'; exact rfl); done)
                                  | ((first
                                      | refine FStep.plain rfl ?_
                                      | (refine FStep.on_ _ _ _ rfl rfl ?_ ?_; (focus (intro u w hd; simp [vOf, is, Region.binds] at hd; simp [hd]))))
                                     intro u w hW hC hd K hK
                                     (try simp [vOf, is, Region.binds] at hd)
                                     simp only [upd, Nat.reduceEqDiff, if_true, if_false] at hK
                                     (try simp only [hd] at hK)
                                     go_simp
                                     (first
                                       | (refine hK _ _ ?_ ?_; (first | exact rfl); (repeat (first | exact Ext.refl _ | assumption | apply Ext.alloc | apply Ext.drew | apply Ext.drewN | (refine Ext.trans ?_ (by assumption)))))
                                       | (go_at_call 81; refine (sbet_any _ _ _ _ _ _ _).mono ?_; (try rw [ho]); rintro e w1 ⟨rfl, hb⟩; (try go_simp); refine hK _ _ ?_ ?_; (first | exact rfl); (repeat (first | exact Ext.refl _ | assumption | apply Ext.alloc | apply Ext.drew | apply Ext.drewN | (refine Ext.trans ?_ (by assumption))))))))
                              case hV18 => (simp only [List.forall_mem_cons]; simp [stable_is])
                              case hg18 => (intro u w hd; simp only [AllV, is] at hd; first | exact (by simp only [hd]) | simp [hd])
                          · rw [hfr, z1, z2] at hn; cases hn
                        · rw [hfr, z1] at hn; cases hn
                    case finm =>
                        intro u w2 hW2 hC2 hg
                        simp only [List.drop_succ_cons, List.drop_zero]
                        simp only [hg]
                        clear hC2 hg
                        go_wp2
                        go_roundw
                        case rel => exact ⟨j + 1, by omega, by go_num, by rw [HN.out], by (repeat (first | exact Ext.refl _ | assumption | apply Ext.alloc | apply Ext.drew | apply Ext.drewN | (refine Ext.trans ?_ (by assumption))))⟩
                        case measure => simp [intOf]; omega
                  · have HN := hide hn
                    rw [HSU.out] at hn
                    go_wp2
                    refine wp_flow_tail_m 27 (by kernel_rfl) (by kernel_rfl) (by kernel_rfl) (by kernel_rfl) (fun u => ⟨#[_, _, _, _, _, _, _, _, _, _, _, _, _, _, _, _, _, _, _, _, _, _, _, _, _, _, _, _, _, _, _, _, _, _, _, _, _, _, _, _, _, _, _, _, _, _, _, _, _, _, _, _, _, _, _, _, _, _, _, _, _, _, _, _, _, _, _, _, _, _, _, _, _, _, _, _, _, _, _, _, _, _, _, _, _, _, _, _, _, _, _, _, _, _, _, _, u 0, u 1, u 2, u 3, u 4, u 5, u 6, u 7, u 8, u 9, u 10, u 11, u 12, u 13, u 14, u 15, u 16, u 17, u 18, u 19, u 20, u 21, u 22, u 23, u 24, u 25, u 26, _, _, _, _, _, _, _, _, _, _, _, _, _, _, _, _, _, _, _, _, _, _, _, _, _, _, _, _, _, _], _⟩) (fun i => List.getD [_, _, _, _, _, _, _, _, _, _, _, _, _, _, _, _, _, _, _, _, _, _, _, _, _, _, _] i undef) (fun w' => w'.cell? ⟨b1, off1 + j * 2, none⟩ = some (.int .i64 (gx C (j))) ∧ w'.cell? ⟨b1, off1 + j * 2 + 1, none⟩ = some (.int .i64 (gy C (j))) ∧ w'.cell? ⟨b1, off1 + i * 2, none⟩ = some (.int .i64 (gx C (i))) ∧ w'.cell? ⟨b1, off1 + i * 2 + 1, none⟩ = some (.int .i64 (gy C (i))) ∧ w'.cell? ⟨b1, off1 + m * 2, none⟩ = some (.int .i64 (gx C (m))) ∧ w'.cell? ⟨b1, off1 + m * 2 + 1, none⟩ = some (.int .i64 (gy C (m)))) _ (fun u => u 26 = .bool true) ?hCm ?hhm ?finm
                    case hCm => exact fun w' hx => (by have h := hsj.ext hx; and_intros <;> first | exact (h.cell hlj).2.1 | exact (h.cell hlj).2.2 | exact (h.cell hli).2.1 | exact (h.cell hli).2.2 | exact (h.cell hlm2).2.1 | exact (h.cell hlm2).2.2)
                    case hhm =>
                      cases hfr : freeTo C i m j
                      · rw [hfr] at hn; cases hn
                      · cases z1 : (j == i)
                        · rw [z1] at hji
                          cases z2 : (j == m)
                          · rw [z2] at hjm
                            cases ho : onW (gx C j) (gy C j) (gx C i) (gy C i) (gx C m) (gy C m)
                            · clear hn
                              refine ⟨[is ?v20_0, is ?v20_1, is ?v20_2, is ?v20_3, is ?v20_4, is ?v20_5, is ?v20_6, is ?v20_7, is ?v20_8, is ?v20_9, is ?v20_10, is ?v20_11, is ?v20_12, is ?v20_13, is ?v20_14, is ?v20_15, is ?v20_16, is ?v20_17, is ?v20_18, is ?v20_19, is ?v20_20, is ?v20_21, is ?v20_22, is ?v20_23, is ?v20_24, is ?v20_25, is ?v20_26], rfl, ?hs20, ?hV20, ?hg20⟩
                              case hs20 =>
                                repeat' (first
                                  | exact FSteps.nil
                                  | refine FSteps.cons ?_ ?_
                                  | (refine FStep.off_ _ _ _ rfl rfl ?_ (fun _ => rfl) ?_; (focus (intro u w hd; simp [vOf, is, Region.binds] at hd; simp [hd])); (intro w'; exact rfl); done)
                                  | ((first
                                      | refine FStep.plain rfl ?_
                                      | (refine FStep.on_ _ _ _ rfl rfl ?_ ?_; (focus (intro u w hd; simp [vOf, is, Region.binds] at hd; simp [hd]))))
                                     intro u w hW hC hd K hK
                                     (try simp [vOf, is, Region.binds] at hd)
                                     simp only [upd, Nat.reduceEqDiff, if_true, if_false] at hK
                                     (try simp only [hd] at hK)
                                     go_simp
                                     (first
                                       | (refine hK _ _ ?_ ?_; (first | exact rfl); (repeat (first | exact Ext.refl _ | assumption | apply Ext.alloc | apply Ext.drew | apply Ext.drewN | (refine Ext.trans ?_ (by assumption)))))
                                       | (go_at_call 81; refine (sbet_any _ _ _ _ _ _ _).mono ?_; (try rw [ho]); rintro e w1 ⟨rfl, hb⟩; (try go_simp); refine hK _ _ ?_ ?_; (first | exact rfl); (repeat (first | exact Ext.refl _ | assumption | apply Ext.alloc | apply Ext.drew | apply Ext.drewN | (refine Ext.trans ?_ (by assumption))))))))
                              case hV20 => (simp only [List.forall_mem_cons]; simp [stable_is])
                              case hg20 => (intro u w hd; simp only [AllV, is] at hd; first | exact (by simp only [hd]) | simp [hd])
                            · rw [hfr, z1, z2, ho] at hn; cases hn
                          · rw [z2] at hjm
                            clear hn
                            refine ⟨[is ?v21_0, is ?v21_1, is ?v21_2, is ?v21_3, is ?v21_4, is ?v21_5, is ?v21_6, is ?v21_7, is ?v21_8, is ?v21_9, is ?v21_10, is ?v21_11, is ?v21_12, is ?v21_13, is ?v21_14, is ?v21_15, is ?v21_16, is ?v21_17, is ?v21_18, is ?v21_19, is ?v21_20, is ?v21_21, is ?v21_22, is ?v21_23, is ?v21_24, is ?v21_25, is ?v21_26], rfl, ?hs21, ?hV21, ?hg21⟩
                            case hs21 =>
                              repeat' (first
                                | exact FSteps.nil
                                | refine FSteps.cons ?_ ?_
                                | (refine FStep.off_ _ _ _ rfl rfl ?_ (fun _ => rfl) ?_; (focus (intro u w hd; simp [vOf, is, Region.binds] at hd; simp [hd])); (intro w'; exact rfl); done)
                                | ((first
                                    | refine FStep.plain rfl ?_
                                    | (refine FStep.on_ _ _ _ rfl rfl ?_ ?_; (focus (intro u w hd; simp [vOf, is, Region.binds] at hd; simp [hd]))))
                                   intro u w hW hC hd K hK
                                   (try simp [vOf, is, Region.binds] at hd)
                                   simp only [upd, Nat.reduceEqDiff, if_true, if_false] at hK
                                   (try simp only [hd] at hK)
                                   go_simp
                                   (first
                                     | (refine hK _ _ ?_ ?_; (first | exact rfl); (repeat (first | exact Ext.refl _ | assumption | apply Ext.alloc | apply Ext.drew | apply Ext.drewN | (refine Ext.trans ?_ (by assumption)))))
                                     | (go_at_call 81; refine (sbet_any _ _ _ _ _ _ _).mono ?_; (try rw [ho]); rintro e w1 ⟨rfl, hb⟩; (try go_simp); refine hK _ _ ?_ ?_; (first | exact rfl); (repeat (first | exact Ext.refl _ | assumption | apply Ext.alloc | apply Ext.drew | apply Ext.drewN | (refine Ext.trans ?_ (by assumption))))))))
                            case hV21 => (simp only [List.forall_mem_cons]; simp [stable_is])
                            case hg21 => (intro u w hd; simp only [AllV, is] at hd; first | exact (by simp only [hd]) | simp [hd])
                        · rw [z1] at hji
                          clear hn
                          refine ⟨[is ?v22_0, is ?v22_1, is ?v22_2, is ?v22_3, is ?v22_4, is ?v22_5, is ?v22_6, is ?v22_7, is ?v22_8, is ?v22_9, is ?v22_10, is ?v22_11, is ?v22_12, is ?v22_13, is ?v22_14, is ?v22_15, is ?v22_16, is ?v22_17, is ?v22_18, is ?v22_19, is ?v22_20, is ?v22_21, is ?v22_22, is ?v22_23, is ?v22_24, is ?v22_25, is ?v22_26], rfl, ?hs22, ?hV22, ?hg22⟩
                          case hs22 =>
                            repeat' (first
                              | exact FSteps.nil
                              | refine FSteps.cons ?_ ?_
                              | (refine FStep.off_ _ _ _ rfl rfl ?_ (fun _ => rfl) ?_; (focus (intro u w hd; simp [vOf, is, Region.binds] at hd; simp [hd])); (intro w'; exact rfl); done)
                              | ((first
                                  | refine FStep.plain rfl ?_
                                  | (refine FStep.on_ _ _ _ rfl rfl ?_ ?_; (focus (intro u w hd; simp [vOf, is, Region.binds] at hd; simp [hd]))))
                                 intro u w hW hC hd K hK
                                 (try simp [vOf, is, Region.binds] at hd)
                                 simp only [upd, Nat.reduceEqDiff, if_true, if_false] at hK
                                 (try simp only [hd] at hK)
                                 go_simp
                                 (first
                                   | (refine hK _ _ ?_ ?_; (first | exact rfl); (repeat (first | exact Ext.refl _ | assumption | apply Ext.alloc | apply Ext.drew | apply Ext.drewN | (refine Ext.trans ?_ (by assumption)))))
                                   | (go_at_call 81; refine (sbet_any _ _ _ _ _ _ _).mono ?_; (try rw [ho]); rintro e w1 ⟨rfl, hb⟩; (try go_simp); refine hK _ _ ?_ ?_; (first | exact rfl); (repeat (first | exact Ext.refl _ | assumption | apply Ext.alloc | apply Ext.drew | apply Ext.drewN | (refine Ext.trans ?_ (by assumption))))))))
                          case hV22 => (simp only [List.forall_mem_cons]; simp [stable_is])
                          case hg22 => (intro u w hd; simp only [AllV, is] at hd; first | exact (by simp only [hd]) | simp [hd])
                    case finm =>
                        intro u w2 hW2 hC2 hg
                        simp only [List.drop_succ_cons, List.drop_zero]
                        simp only [hg]
                        clear hC2 hg
                        go_wp2
                        go_roundw
                        case rel => exact ⟨j + 1, by omega, by go_num, by rw [HN.out], by (repeat (first | exact Ext.refl _ | assumption | apply Ext.alloc | apply Ext.drew | apply Ext.drewN | (refine Ext.trans ?_ (by assumption))))⟩
                        case measure => simp [intOf]; omega
                · have q6 : ¬ (j : Int) < (C.length : Int) := by omega
                  have e : j = C.length := by omega
                  have E := hide e
                  clear e
                  obtain ⟨s1, s2⟩ := sum_wrap (HPC.out i hli) (HPC.out m hlm2)
                  go_wp2
                  refine wp_flow_tail 24 (by kernel_rfl) (by kernel_rfl) (by kernel_rfl) (by kernel_rfl) (fun u => ⟨#[_, _, _, _, _, _, _, _, _, _, _, _, _, _, _, u 23, _, _, _, _, _, _, _, _, _, _, _, _, _, _, _, _, _, _, _, _, _, _, _, _, _, _, _, _, _, _, _, _, _, _, _, _, _, _, _, _, _, _, _, _, _, _, _, _, _, _, _, _, _, _, _, _, _, _, _, _, _, _, _, _, _, _, _, _, _, _, _, _, _, _, _, _, _, _, _, _, _, _, _, _, _, _, _, _, _, _, _, _, _, _, _, _, _, _, _, _, _, _, _, _, _, _, _, u 0, u 1, u 2, u 3, u 4, u 5, u 6, u 7, u 8, u 9, u 10, u 11, u 12, u 13, u 14, u 15, u 16, u 17, u 18, u 19, u 20, u 21, u 22, _, _, _, _, _, _, _], _⟩) (fun i => List.getD [_, _, _, _, _, _, _, _, _, _, _, _, _, _, _, _, _, _, _, _, _, _, _, _] i undef) [is ?v23_0, is ?v23_1, is ?v23_2, is ?v23_3, is ?v23_4, is ?v23_5, is ?v23_6, is ?v23_7, is ?v23_8, is ?v23_9, is ?v23_10, is ?v23_11, is ?v23_12, is ?v23_13, is ?v23_14, is ?v23_15, is ?v23_16, is ?v23_17, is ?v23_18, is ?v23_19, is ?v23_20, is ?v23_21, is ?v23_22, (NewC wj.heap.size #[.int .i64 0, .int .i64 0] 35)] (fun w' => w'.cell? ⟨b1, off1 + i * 2, none⟩ = some (.int .i64 (gx C (i))) ∧ w'.cell? ⟨b1, off1 + i * 2 + 1, none⟩ = some (.int .i64 (gy C (i))) ∧ w'.cell? ⟨b1, off1 + m * 2, none⟩ = some (.int .i64 (gx C (m))) ∧ w'.cell? ⟨b1, off1 + m * 2 + 1, none⟩ = some (.int .i64 (gy C (m)))) _ rfl ?hC23 ?hs23 ?hV23 ?fin23
                  case hC23 => exact fun w' hx => (by have h := hsj.ext hx; and_intros <;> first | exact (h.cell hli).2.1 | exact (h.cell hli).2.2 | exact (h.cell hlm2).2.1 | exact (h.cell hlm2).2.2)
                  case hs23 =>
                    repeat' (first
                      | exact FSteps.nil
                      | refine FSteps.cons ?_ ?_
                      | (refine FStep.off_ _ _ _ rfl rfl ?_ (fun _ => rfl) ?_; (focus (intro u w hd; simp [vOf, is, Region.binds] at hd; simp [hd])); (intro w'; exact rfl); done)
                      | ((first
                          | refine FStep.plain rfl ?_
                          | (refine FStep.on_ _ _ _ rfl rfl ?_ ?_; (focus (intro u w hd; simp [vOf, is, Region.binds] at hd; simp [hd]))))
                         intro u w hW hC hd K hK
                         (try simp [vOf, is, Region.binds] at hd)
                         simp only [upd, Nat.reduceEqDiff, if_true, if_false] at hK
                         (try simp only [hd] at hK)
                         go_simp
                         (first
                           | (refine hK _ _ ?_ ?_; (first | exact rfl | exact NewC_mk _ hW.size); (repeat (first | exact Ext.refl _ | assumption | apply Ext.alloc | apply Ext.drew | apply Ext.drewN | (refine Ext.trans ?_ (by assumption))))))))
                  case hV23 => (simp only [List.forall_mem_cons]; simp [stable_is, NewC_stable])
                  case fin23 =>
                    intro u w2 hW2 hC2 hd
                    simp only [AllV, is] at hd
                    have hs23 := hd.2.2.2.2.2.2.2.2.2.2.2.2.2.2.2.2.2.2.2.2.2.2.2.1
                    simp only [List.drop_succ_cons, List.drop_zero]
                    simp only [hd]
                    clear hd
                    obtain ⟨g, hu, hg1, hg2⟩ := hs23
                    simp only [hu]
                    have hT : Two w2 g 35 0 0 := hg2
                    obtain ⟨t1, t2, t3, t4, t5⟩ := hT.cells
                    obtain ⟨t6, t7, t8, t9, t10⟩ := (hT.set (gx C i + gx C m) (gy C i + gy C m)).cells
                    have hwj : Ext wi w2 := by (repeat (first | exact Ext.refl _ | assumption | apply Ext.alloc | apply Ext.drew | apply Ext.drewN | (refine Ext.trans ?_ (by assumption))))
                    have hgi : wi.heap.size ≤ g := Nat.le_trans (show Ext wi wj by (repeat (first | exact Ext.refl _ | assumption | apply Ext.alloc | apply Ext.drew | apply Ext.drewN | (refine Ext.trans ?_ (by assumption))))).size hg1
                    have hxs : Ext wi ((w2.setCell ⟨g, 0, none⟩ (.int .i64 (gx C i + gx C m))).setCell ⟨g, 1, none⟩ (.int .i64 (gy C i + gy C m))) := (hwj.setCell hgi _).setCell hgi _
                    clear hC2 hT hg2
                    cases hfr : freeTo C i m j
                    · have HNB := hide (show badS l C i m = false by unfold badS freeB; rw [← E.out, hfr]; rfl)
                      go_wp2_with (go_at_call 72; refine (sHolds_at _ _ _ _ _ _ _ (hr2.ext (by (repeat (first | exact Ext.refl _ | assumption | apply Ext.alloc | apply Ext.drew | apply Ext.drewN | (refine Ext.trans ?_ (by assumption)))))) HKL.out (by omega)).mono ?_; rintro e w8 ⟨rfl, hb8⟩)
                      go_roundw
                      case rel => exact ⟨m + 1, by omega, by go_num, by (repeat (first | exact Ext.refl _ | assumption | apply Ext.alloc | apply Ext.drew | apply Ext.drewN | (refine Ext.trans ?_ (by assumption)))), hide (by rw [goodRow_succ, HG2.out, HNB.out]; rfl)⟩
                      case measure => simp [intOf]; omega
                    · cases hv : decide (holdsV (dbl l) (gx C i + gx C m) (gy C i + gy C m) < 0)
                      · have HNB := hide (show badS l C i m = false by unfold badS freeB midS; rw [hv]; simp)
                        go_wp2_with (go_at_call 72; refine (sHolds_at _ _ _ _ _ _ _ (hr2.ext (by (repeat (first | exact Ext.refl _ | assumption | apply Ext.alloc | apply Ext.drew | apply Ext.drewN | (refine Ext.trans ?_ (by assumption)))))) HKL.out (by omega)).mono ?_; rintro e w8 ⟨rfl, hb8⟩)
                        go_roundw
                        case rel => exact ⟨m + 1, by omega, by go_num, by (repeat (first | exact Ext.refl _ | assumption | apply Ext.alloc | apply Ext.drew | apply Ext.drewN | (refine Ext.trans ?_ (by assumption)))), hide (by rw [goodRow_succ, HG2.out, HNB.out]; rfl)⟩
                        case measure => simp [intOf]; omega
                      · have HNB := hide (HBAD.out i m hli hlm (by unfold badS freeB midS; rw [hv, ← E.out, hfr]; rfl))
                        go_wp2_with (go_at_call 72; refine (sHolds_at _ _ _ _ _ _ _ (hr2.ext (by (repeat (first | exact Ext.refl _ | assumption | apply Ext.alloc | apply Ext.drew | apply Ext.drewN | (refine Ext.trans ?_ (by assumption)))))) HKL.out (by omega)).mono ?_; rintro e w8 ⟨rfl, hb8⟩)
                        go_ret
                        exact ⟨ret_bool (by rw [HNB.out]), by (repeat (first | exact Ext.refl _ | assumption | apply Ext.alloc | apply Ext.drew | apply Ext.drewN | (refine Ext.trans ?_ (by assumption))))⟩
            · have q4 : ¬ (m : Int) < (i : Int) := by omega
              have HGN := hide (show goodTo l C (i + 1) = true by rw [goodTo_succ, HG.out]; have h := HG2.out; rw [show m = i by omega] at h; rw [h]; rfl)
              go_wp2
              go_roundw
              case rel => exact ⟨i + 1, by omega, by go_num, by (repeat (first | exact Ext.refl _ | assumption | apply Ext.alloc | apply Ext.drew | apply Ext.drewN | (refine Ext.trans ?_ (by assumption)))), HGN⟩
              case measure => simp [intOf]; omega
        · have q3 : ¬ (i : Int) < (C.length : Int) := by omega
          have HV := hide (HEND.out (by rw [show C.length = i by omega]; exact HG.out))
          go_wp2
          go_ret
          exact ⟨ret_bool (by rw [HV.out]), by (repeat (first | exact Ext.refl _ | assumption | apply Ext.alloc | apply Ext.drew | apply Ext.drewN | (refine Ext.trans ?_ (by assumption))))⟩

end Go.Proofs.Ytmccffmkfdcmmaa
