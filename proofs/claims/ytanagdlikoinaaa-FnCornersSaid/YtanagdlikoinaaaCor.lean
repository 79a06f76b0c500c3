/-
  A room's corners as cells; whether a corner is asked for that is there. Contracts: hasCorner, IsReflex and what stands below it.
-/
import Derived.Test.YtanagdlikoinaaaSRoomOk
import Derived.Test.YtanagdlikoinaaaRoomLaw
namespace Go.Proofs.Ytanagdlikoinaaa
open Go.RowKit

theorem RPts.some_ {w : World} {A : Option Addr} {l : List (Int × Int)} (h : RPts w A l) (hl : 0 < l.length) : ∃ b off, A = some ⟨b, off, none⟩ :=
  let ⟨b, off, e, _⟩ := h hl
  ⟨b, off, e⟩

theorem RPts.cell {w : World} {b off : Nat} {l : List (Int × Int)} (h : RPts w (some ⟨b, off, none⟩) l) {k : Nat} (hk : k < l.length) :
    b < w.heap.size ∧ w.cell? ⟨b, off + k * 2, none⟩ = some (.int .i64 (gx l k)) ∧ w.cell? ⟨b, off + k * 2 + 1, none⟩ = some (.int .i64 (gy l k)) := by
  obtain ⟨b', off', e, h1, h2, h3⟩ := h.at_ hk
  injection e with e
  injection e with e1 e2 _
  subst e1 e2
  exact ⟨h1, h2, h3⟩

theorem inB_iff (x lo hi : Int) : inB x lo hi = true ↔ lo ≤ x ∧ x ≤ hi := by simp [inB]

def hasC (l : List (Int × Int)) (k : Int) : Bool := inB k 0 ((l.length : Int) - 1) && roomB l

theorem hasC_at {l : List (Int × Int)} {k : Int} (h : hasC l k = true) : ∃ n : Nat, k = n ∧ n < l.length ∧ roomB l = true := by
  unfold hasC at h
  rw [Bool.and_eq_true, inB_iff] at h
  exact ⟨k.toNat, by omega, by omega, h.2⟩

theorem hasCorner_any (A : Option Addr) (l : List (Int × Int)) (c : Nat) (k : Int) (w : World) (hp : RPts w A l) (hn : l.length ≤ 1048576) :
    Calls Try.prog 32 #[.agg #[.slice A l.length c], .int .i64 k] w fun e w' => e = .returned (.bool (hasC l k)) ∧ Ext w w' := by
  have HB : Hid (∀ w', Ext (w.alloc (.cells #[.slice A l.length c] 26)) w' → w'.cell? ⟨w.heap.size, 0, none⟩ = some (.slice A l.length c)) := fun w' hx => by
    and_intros <;> (((first | rw [hx.cells _ _ (by first | (simp; done) | (simp; omega))] | rw [hx.frozens _ _ (by first | (simp; done) | (simp; omega))]); (first | (simp [go_sem]; done) | (simp [go_sem, World.cell?_alloc_past]; done) | (simp [go_sem, World.frozen?]; done))))
  unfold hasC
  cases h : inB k 0 ((l.length : Int) - 1)
  · go_enter Try.func32, Try.ntmps32
    go_wp2_with (go_at_call 48; refine (between_any _ _ _ _).mono ?_; rintro e w1 ⟨rfl, rfl⟩)
    go_ret
    exact ⟨rfl, by (repeat (first | exact Ext.refl _ | assumption | apply Ext.alloc | apply Ext.drew | apply Ext.drewN | (refine Ext.trans ?_ (by assumption))))⟩
  · go_enter Try.func32, Try.ntmps32
    go_wp2_with (first
      | (go_at_call 48; refine (between_any _ _ _ _).mono ?_; rintro e w1 ⟨rfl, rfl⟩)
      | (go_at_call 29; refine (RoomOk_any _ _ _ _ (hp.ext (by (repeat (first | exact Ext.refl _ | assumption | apply Ext.alloc | apply Ext.drew | apply Ext.drewN | (refine Ext.trans ?_ (by assumption)))))) hn).mono ?_; rintro e w1 ⟨rfl, hb⟩; have hcc := HB.out w1 (by (repeat (first | exact Ext.refl _ | assumption | apply Ext.alloc | apply Ext.drew | apply Ext.drewN | (refine Ext.trans ?_ (by assumption)))))))
    go_ret
    exact ⟨rfl, by (repeat (first | exact Ext.refl _ | assumption | apply Ext.alloc | apply Ext.drew | apply Ext.drewN | (refine Ext.trans ?_ (by assumption))))⟩

/-- the turn at corner k -/
def turnAt (l : List (Int × Int)) (k : Nat) : Int := turnW (gx l ((k + l.length - 1) % l.length)) (gy l ((k + l.length - 1) % l.length)) (gx l k) (gy l k) (gx l ((k + 1) % l.length)) (gy l ((k + 1) % l.length))
def reflB (l : List (Int × Int)) (k : Nat) : Bool := decide (turnAt l k < 0)

set_option maxRecDepth 100000 in
theorem reflex_any (A : Option Addr) (l : List (Int × Int)) (c k : Nat) (w : World) (hp : RPts w A l) (hn : l.length ≤ 1048576) (hk : k < l.length) :
    Calls Try.prog 30 #[.agg #[.slice A l.length c], .int .i64 k] w fun e w' => e = .returned (.bool (reflB l k)) ∧ Ext w w' := by
  obtain ⟨b, off, rfl⟩ := hp.some_ (by omega)
  have hm1 : (k + 1) % l.length < l.length := Nat.mod_lt _ (by omega)
  have hm2 : (k + l.length - 1) % l.length < l.length := Nat.mod_lt _ (by omega)
  obtain ⟨hz, hx0, hy0⟩ := hp.cell hk
  obtain ⟨_, hx1, hy1⟩ := hp.cell hm1
  obtain ⟨_, hx2, hy2⟩ := hp.cell hm2
  obtain ⟨q1, q2, q3, q4, q5⟩ := idx_facts ((k : Int) + 1) (k + 1) l.length (by omega) (by omega) (by omega)
  obtain ⟨r1, r2, r3, r4, r5⟩ := idx_facts ((k : Int) + l.length - 1) (k + l.length - 1) l.length (by omega) (by omega) (by omega)
  have s1 : IntKind.i64.wrap ((k : Int) + l.length) = (k : Int) + l.length := wrap_in _ (by omega) (by omega)
  have hne : l ≠ [] := fun e => by rw [e] at hk; simp at hk
  have hz2 : b < (w.alloc (.cells #[.slice (some ⟨b, off, none⟩) l.length c] 26)).heap.size := by simp; omega
  unfold reflB turnAt
  go_enter Try.func30, Try.ntmps30
  go_wp2
  refine wp_flow (by kernel_rfl) (by kernel_rfl) (fun u => ⟨#[_, _, _, _, u 25, _, _, _, _, u 0, u 1, u 2, u 3, u 4, u 5, u 6, u 7, u 8, u 9, u 10, u 11, u 12, u 13, u 14, u 15, u 16, u 17, u 18, u 19, u 20, u 21, u 22, u 23, u 24], _⟩) (fun i => List.getD [_, _, _, _, _, _, _, _, _, _, _, _, _, _, _, _, _, _, _, _, _, _, _, _, _, _] i undef) [is ?v1_0, is ?v1_1, is ?v1_2, is ?v1_3, is ?v1_4, is ?v1_5, is ?v1_6, is ?v1_7, is ?v1_8, is ?v1_9, is ?v1_10, is ?v1_11, is ?v1_12, is ?v1_13, is ?v1_14, is ?v1_15, is ?v1_16, is ?v1_17, is ?v1_18, is ?v1_19, is ?v1_20, is ?v1_21, is ?v1_22, is ?v1_23, is ?v1_24, is ?v1_25] (fun w' => w'.cell? ⟨w.heap.size, 0, none⟩ = some (.slice (some ⟨b, off, none⟩) l.length c) ∧ w'.cell? ⟨b, off + k * 2, none⟩ = some (.int .i64 (gx l (k))) ∧ w'.cell? ⟨b, off + k * 2 + 1, none⟩ = some (.int .i64 (gy l (k))) ∧ w'.cell? ⟨b, off + (k + 1) % l.length * 2, none⟩ = some (.int .i64 (gx l ((k + 1) % l.length))) ∧ w'.cell? ⟨b, off + (k + 1) % l.length * 2 + 1, none⟩ = some (.int .i64 (gy l ((k + 1) % l.length))) ∧ w'.cell? ⟨b, off + (k + l.length - 1) % l.length * 2, none⟩ = some (.int .i64 (gx l ((k + l.length - 1) % l.length))) ∧ w'.cell? ⟨b, off + (k + l.length - 1) % l.length * 2 + 1, none⟩ = some (.int .i64 (gy l ((k + l.length - 1) % l.length)))) _ rfl ?hC1 ?hs1 ?hV1 ?fin1
  case hC1 => (intro w' hx; and_intros <;> (first | (refine (Eq.trans (hx.cells _ _ ?_) ?_) <;> first | assumption | omega | (simp; done) | (simp; omega) | (simp [go_sem, World.cell?_alloc_past, *]; done)) | (have hz := hx.size; first | omega | (simp at hz; omega))))
  case hs1 =>
    repeat' (first
      | exact FSteps.nil
      | refine FSteps.cons ?_ ?_
      | (refine FStep.off_ _ _ _ rfl rfl ?_ (fun _ => rfl) ?_; (focus (intro u w hd; simp [vOf, is, Region.binds] at hd; simp [hd])); (intro w'; exact rfl); done)
      | ((first
          | refine FStep.plain rfl ?_
          | (refine FStep.on_ _ _ _ rfl rfl ?_ ?_; (focus (intro u w hd; simp [vOf, is, Region.binds] at hd; simp [hd]))))
         intro u w hW hC hd K hK
         (try simp [vOf, is, Region.binds] at hd)
         simp only [upd, Nat.reduceEqDiff, if_true, if_false] at hK
         (try simp only [hd] at hK)
         go_simp
         (first
           | (refine hK _ _ ?_ ?_; (first | exact rfl); (repeat (first | exact Ext.refl _ | assumption | apply Ext.alloc | apply Ext.drew | apply Ext.drewN | (refine Ext.trans ?_ (by assumption)))))
           | (go_at_call 49; refine (turn_any _ _ _ _ _ _ _).mono ?_; rintro e w1 ⟨rfl, hb⟩; (try go_simp); refine hK _ _ ?_ ?_; (first | exact rfl); (repeat (first | exact Ext.refl _ | assumption | apply Ext.alloc | apply Ext.drew | apply Ext.drewN | (refine Ext.trans ?_ (by assumption))))))))
  case hV1 => (simp only [List.forall_mem_cons]; simp [stable_is])
  case fin1 =>
    intro u w2 hW2 hC2 hd
    simp only [AllV, is] at hd
    simp only [hd]
    clear hd
    go_wp2
    go_ret
    exact ⟨rfl, by (repeat (first | exact Ext.refl _ | assumption | apply Ext.alloc | apply Ext.drew | apply Ext.drewN | (refine Ext.trans ?_ (by assumption))))⟩

/-- IsReflex, as both texts give it -/
def isReflV (l : List (Int × Int)) (k : Int) : Bool := hasC l k && reflB l k.toNat

theorem IsReflex_any (A : Option Addr) (l : List (Int × Int)) (c : Nat) (k : Int) (w : World) (hp : RPts w A l) (hn : l.length ≤ 1048576) :
    Calls Try.prog 11 #[.agg #[.slice A l.length c], .int .i64 k] w fun e w' => e = .returned (.bool (isReflV l k)) ∧ Ext w w' := by
  have HB : Hid (∀ w', Ext (w.alloc (.cells #[.slice A l.length c] 26)) w' → w'.cell? ⟨w.heap.size, 0, none⟩ = some (.slice A l.length c)) := fun w' hx => by
    and_intros <;> (((first | rw [hx.cells _ _ (by first | (simp; done) | (simp; omega))] | rw [hx.frozens _ _ (by first | (simp; done) | (simp; omega))]); (first | (simp [go_sem]; done) | (simp [go_sem, World.cell?_alloc_past]; done) | (simp [go_sem, World.frozen?]; done))))
  unfold isReflV
  cases h : hasC l k
  · go_enter Try.func11, Try.ntmps11
    go_wp2_with ((go_at_call 32; refine (hasCorner_any _ _ _ _ _ (hp.ext (by (repeat (first | exact Ext.refl _ | assumption | apply Ext.alloc | apply Ext.drew | apply Ext.drewN | (refine Ext.trans ?_ (by assumption)))))) hn).mono ?_; rintro e w1 ⟨rfl, hb⟩; have hcc := HB.out w1 (by (repeat (first | exact Ext.refl _ | assumption | apply Ext.alloc | apply Ext.drew | apply Ext.drewN | (refine Ext.trans ?_ (by assumption)))))))
    go_ret
    exact ⟨rfl, by (repeat (first | exact Ext.refl _ | assumption | apply Ext.alloc | apply Ext.drew | apply Ext.drewN | (refine Ext.trans ?_ (by assumption))))⟩
  · obtain ⟨m, rfl, hm, _⟩ := hasC_at h
    go_enter Try.func11, Try.ntmps11
    go_wp2_with (first | (go_at_call 32; refine (hasCorner_any _ _ _ _ _ (hp.ext (by (repeat (first | exact Ext.refl _ | assumption | apply Ext.alloc | apply Ext.drew | apply Ext.drewN | (refine Ext.trans ?_ (by assumption)))))) hn).mono ?_; rintro e w1 ⟨rfl, hb⟩; have hcc := HB.out w1 (by (repeat (first | exact Ext.refl _ | assumption | apply Ext.alloc | apply Ext.drew | apply Ext.drewN | (refine Ext.trans ?_ (by assumption)))))) | (go_at_call 30; refine (reflex_any _ _ _ _ _ (hp.ext (by (repeat (first | exact Ext.refl _ | assumption | apply Ext.alloc | apply Ext.drew | apply Ext.drewN | (refine Ext.trans ?_ (by assumption)))))) hn hm).mono ?_; rintro e w1 ⟨rfl, hb⟩; have hcc := HB.out w1 (by (repeat (first | exact Ext.refl _ | assumption | apply Ext.alloc | apply Ext.drew | apply Ext.drewN | (refine Ext.trans ?_ (by assumption)))))))
    go_ret
    exact ⟨rfl, by (repeat (first | exact Ext.refl _ | assumption | apply Ext.alloc | apply Ext.drew | apply Ext.drewN | (refine Ext.trans ?_ (by assumption))))⟩

end Go.Proofs.Ytanagdlikoinaaa
