/-
  A room's corners as cells; whether a corner is asked for that is there. Contracts: hasCorner, IsReflex and what stands below it.
-/
import Derived.Test.YtngapnmegembaaaSRoomOk
import Derived.Test.YtngapnmegembaaaRoomLaw
namespace Go.Proofs.Ytngapnmegembaaa
open Go.RowKit

theorem RPts.some_ {w : World} {A : Option Addr} {l : List (Int × Int)} (h : RPts w A l) (hl : 0 < l.length) : ∃ b off, A = some ⟨b, off, none⟩ :=
  let ⟨b, off, e, _⟩ := h hl
  ⟨b, off, e⟩

theorem RPts.cell {w : World} {b off : Nat} {l : List (Int × Int)} (h : RPts w (some ⟨b, off, none⟩) l) {k : Nat} (hk : k < l.length) :
    b < w.heap.size ∧ w.cell? ⟨b, off + k * 2, none⟩ = some (.int .i64 (gx l k)) ∧ w.cell? ⟨b, off + k * 2 + 1, none⟩ = some (.int .i64 (gy l k)) := by
  obtain ⟨b', off', e, h1, h2, h3⟩ := h.at_ hk
  injection e with e
  injection e with e1 e2 _
  subst e1 e2
  exact ⟨h1, h2, h3⟩

theorem inB_iff (x lo hi : Int) : inB x lo hi = true ↔ lo ≤ x ∧ x ≤ hi := by simp [inB]

def hasC (l : List (Int × Int)) (k : Int) : Bool := inB k 0 ((l.length : Int) - 1) && roomB l

theorem hasC_at {l : List (Int × Int)} {k : Int} (h : hasC l k = true) : ∃ n : Nat, k = n ∧ n < l.length ∧ roomB l = true := by
  unfold hasC at h
  rw [Bool.and_eq_true, inB_iff] at h
  exact ⟨k.toNat, by omega, by omega, h.2⟩

theorem hasCorner_any (A : Option Addr) (l : List (Int × Int)) (c : Nat) (k : Int) (w : World) (hp : RPts w A l) (hn : l.length ≤ 1048576) :
    Calls Try.prog 83 #[.agg #[.slice A l.length c], .int .i64 k] w fun e w' => e = .returned (.bool (hasC l k)) ∧ Ext w w' := by
  have HB : Hid (∀ w', Ext (w.alloc (.cells #[.slice A l.length c] 29)) w' → w'.cell? ⟨w.heap.size, 0, none⟩ = some (.slice A l.length c)) := fun w' hx => by
    and_intros <;> (((first | rw [hx.cells _ _ (by first | (simp; done) | (simp; omega))] | rw [hx.frozens _ _ (by first | (simp; done) | (simp; omega))]); (first | (simp [go_sem]; done) | (simp [go_sem, World.cell?_alloc_past]; done) | (simp [go_sem, World.frozen?]; done))))
  unfold hasC
  cases h : inB k 0 ((l.length : Int) - 1)
  · go_enter Try.func83, Try.ntmps83
    go_wp2_with (go_at_call 76; refine (between_any _ _ _ _).mono ?_; rintro e w1 ⟨rfl, rfl⟩)
    go_ret
    exact ⟨rfl, by (repeat (first | exact Ext.refl _ | assumption | apply Ext.alloc | apply Ext.drew | apply Ext.drewN | (refine Ext.trans ?_ (by assumption))))⟩
  · go_enter Try.func83, Try.ntmps83
    go_wp2_with (first
      | (go_at_call 76; refine (between_any _ _ _ _).mono ?_; rintro e w1 ⟨rfl, rfl⟩)
      | (go_at_call 24; refine (RoomOk_any _ _ _ _ (hp.ext (by (repeat (first | exact Ext.refl _ | assumption | apply Ext.alloc | apply Ext.drew | apply Ext.drewN | (refine Ext.trans ?_ (by assumption)))))) hn).mono ?_; rintro e w1 ⟨rfl, hb⟩; have hcc := HB.out w1 (by (repeat (first | exact Ext.refl _ | assumption | apply Ext.alloc | apply Ext.drew | apply Ext.drewN | (refine Ext.trans ?_ (by assumption)))))))
    go_ret
    exact ⟨rfl, by (repeat (first | exact Ext.refl _ | assumption | apply Ext.alloc | apply Ext.drew | apply Ext.drewN | (refine Ext.trans ?_ (by assumption))))⟩

/-- the turn at corner k -/
def turnAt (l : List (Int × Int)) (k : Nat) : Int := turnW (gx l ((k + l.length - 1) % l.length)) (gy l ((k + l.length - 1) % l.length)) (gx l k) (gy l k) (gx l ((k + 1) % l.length)) (gy l ((k + 1) % l.length))
def reflB (l : List (Int × Int)) (k : Nat) : Bool := decide (turnAt l k < 0)

set_option maxRecDepth 100000 in
theorem reflex_any (A : Option Addr) (l : List (Int × Int)) (c k : Nat) (w : World) (hp : RPts w A l) (hn : l.length ≤ 1048576) (hk : k < l.length) :
    Calls Try.prog 84 #[.agg #[.slice A l.length c], .int .i64 k] w fun e w' => e = .returned (.bool (reflB l k)) ∧ Ext w w' := by
  obtain ⟨b, off, rfl⟩ := hp.some_ (by omega)
  have hm1 : (k + 1) % l.length < l.length := Nat.mod_lt _ (by omega)
  have hm2 : (k + l.length - 1) % l.length < l.length := Nat.mod_lt _ (by omega)
  obtain ⟨hz, hx0, hy0⟩ := hp.cell hk
  obtain ⟨_, hx1, hy1⟩ := hp.cell hm1
  obtain ⟨_, hx2, hy2⟩ := hp.cell hm2
  obtain ⟨q1, q2, q3, q4, q5⟩ := idx_facts ((k : Int) + 1) (k + 1) l.length (by omega) (by omega) (by omega)
  obtain ⟨r1, r2, r3, r4, r5⟩ := idx_facts ((k : Int) + l.length - 1) (k + l.length - 1) l.length (by omega) (by omega) (by omega)
  have s1 : IntKind.i64.wrap ((k : Int) + l.length) = (k : Int) + l.length := wrap_in _ (by omega) (by omega)
  have hne : l ≠ [] := fun e => by rw [e] at hk; simp at hk
  have hz2 : b < (w.alloc (.cells #[.slice (some ⟨b, off, none⟩) l.length c] 29)).heap.size := by simp; omega
  unfold reflB turnAt
  go_enter Try.func84, Try.ntmps84
  go_wp2
  refine wp_flow (by kernel_rfl) (by kernel_rfl) (fun u => ⟨#[_, _, _, _, u 25, _, _, _, _, u 0, u 1, u 2, u 3, u 4, u 5, u 6, u 7, u 8, u 9, u 10, u 11, u 12, u 13, u 14, u 15, u 16, u 17, u 18, u 19, u 20, u 21, u 22, u 23, u 24], _⟩) (fun i => List.getD [_, _, _, _, _, _, _, _, _, _, _, _, _, _, _, _, _, _, _, _, _, _, _, _, _, _] i undef) [is ?v24_0, is ?v24_1, is ?v24_2, is ?v24_3, is ?v24_4, is ?v24_5, is ?v24_6, is ?v24_7, is ?v24_8, is ?v24_9, is ?v24_10, is ?v24_11, is ?v24_12, is ?v24_13, is ?v24_14, is ?v24_15, is ?v24_16, is ?v24_17, is ?v24_18, is ?v24_19, is ?v24_20, is ?v24_21, is ?v24_22, is ?v24_23, is ?v24_24, is ?v24_25] (fun w' => w'.cell? ⟨w.heap.size, 0, none⟩ = some (.slice (some ⟨b, off, none⟩) l.length c) ∧ w'.cell? ⟨b, off + k * 2, none⟩ = some (.int .i64 (gx l (k))) ∧ w'.cell? ⟨b, off + k * 2 + 1, none⟩ = some (.int .i64 (gy l (k))) ∧ w'.cell? ⟨b, off + (k + 1) % l.length * 2, none⟩ = some (.int .i64 (gx l ((k + 1) % l.length))) ∧ w'.cell? ⟨b, off + (k + 1) % l.length * 2 + 1, none⟩ = some (.int .i64 (gy l ((k + 1) % l.length))) ∧ w'.cell? ⟨b, off + (k + l.length - 1) % l.length * 2, none⟩ = some (.int .i64 (gx l ((k + l.length - 1) % l.length))) ∧ w'.cell? ⟨b, off + (k + l.length - 1) % l.length * 2 + 1, none⟩ = some (.int .i64 (gy l ((k + l.length - 1) % l.length)))) _ rfl ?hC24 ?hs24 ?hV24 ?fin24
  case hC24 => (intro w' hx; and_intros <;> (first | (refine (Eq.trans (hx.cells _ _ ?_) ?_) <;> first | assumption | omega | (simp; done) | (simp; omega) | (simp [go_sem, World.cell?_alloc_past, *]; done)) | (have hz := hx.size; first | omega | (simp at hz; omega))))
  case hs24 =>
    repeat' (first
      | exact FSteps.nil
      | refine FSteps.cons ?_ ?_
      | (refine FStep.off_ _ _ _ rfl rfl ?_ (fun _ => rfl) ?_; (focus (intro u w hd; simp [vOf, is, Region.binds] at hd; simp [hd])); (intro w'; exact rfl); done)
      | ((first
          | refine FStep.plain rfl ?_
          | (refine FStep.on_ _ _ _ rfl rfl ?_ ?_; (focus (intro u w hd; simp [vOf, is, Region.binds] at hd; simp [hd]))))
         intro u w hW hC hd K hK
         (try simp [vOf, is, Region.binds] at hd)
         simp only [upd, Nat.reduceEqDiff, if_true, if_false] at hK
         (try simp only [hd] at hK)
         go_simp
         (first
           | (refine hK _ _ ?_ ?_; (first | exact rfl); (repeat (first | exact Ext.refl _ | assumption | apply Ext.alloc | apply Ext.drew | apply Ext.drewN | (refine Ext.trans ?_ (by assumption)))))
           | (go_at_call 79; refine (turn_any _ _ _ _ _ _ _).mono ?_; rintro e w1 ⟨rfl, hb⟩; (try go_simp); refine hK _ _ ?_ ?_; (first | exact rfl); (repeat (first | exact Ext.refl _ | assumption | apply Ext.alloc | apply Ext.drew | apply Ext.drewN | (refine Ext.trans ?_ (by assumption))))))))
  case hV24 => (simp only [List.forall_mem_cons]; simp [stable_is])
  case fin24 =>
    intro u w2 hW2 hC2 hd
    simp only [AllV, is] at hd
    simp only [hd]
    clear hd
    go_wp2
    go_ret
    exact ⟨rfl, by (repeat (first | exact Ext.refl _ | assumption | apply Ext.alloc | apply Ext.drew | apply Ext.drewN | (refine Ext.trans ?_ (by assumption))))⟩

set_option maxRecDepth 100000 in
theorem sReflex_any (A : Option Addr) (l : List (Int × Int)) (c k : Nat) (w : World) (hp : RPts w A l) (hn : l.length ≤ 1048576) (hk : k < l.length) :
    Calls Try.prog 82 #[.slice A l.length c, .int .i64 k] w fun e w' => e = .returned (.bool (reflB l k)) ∧ Ext w w' := by
  obtain ⟨b, off, rfl⟩ := hp.some_ (by omega)
  have hm1 : (k + 1) % l.length < l.length := Nat.mod_lt _ (by omega)
  have hm2 : (k + l.length - 1) % l.length < l.length := Nat.mod_lt _ (by omega)
  obtain ⟨hz, hx0, hy0⟩ := hp.cell hk
  obtain ⟨_, hx1, hy1⟩ := hp.cell hm1
  obtain ⟨_, hx2, hy2⟩ := hp.cell hm2
  obtain ⟨q1, q2, q3, q4, q5⟩ := idx_facts ((k : Int) + 1) (k + 1) l.length (by omega) (by omega) (by omega)
  obtain ⟨r1, r2, r3, r4, r5⟩ := idx_facts ((k : Int) + l.length - 1) (k + l.length - 1) l.length (by omega) (by omega) (by omega)
  have s1 : IntKind.i64.wrap ((k : Int) + l.length) = (k : Int) + l.length := wrap_in _ (by omega) (by omega)
  have hne : l ≠ [] := fun e => by rw [e] at hk; simp at hk
  unfold reflB turnAt
  go_enter Try.func82, Try.ntmps82
  go_wp2
  refine wp_flow (by kernel_rfl) (by kernel_rfl) (fun u => ⟨#[_, _, _, _, u 22, _, _, _, u 0, u 1, u 2, u 3, u 4, u 5, u 6, u 7, u 8, u 9, u 10, u 11, u 12, u 13, u 14, u 15, u 16, u 17, u 18, u 19, u 20, u 21], _⟩) (fun i => List.getD [_, _, _, _, _, _, _, _, _, _, _, _, _, _, _, _, _, _, _, _, _, _, _] i undef) [is ?v25_0, is ?v25_1, is ?v25_2, is ?v25_3, is ?v25_4, is ?v25_5, is ?v25_6, is ?v25_7, is ?v25_8, is ?v25_9, is ?v25_10, is ?v25_11, is ?v25_12, is ?v25_13, is ?v25_14, is ?v25_15, is ?v25_16, is ?v25_17, is ?v25_18, is ?v25_19, is ?v25_20, is ?v25_21, is ?v25_22] (fun w' => w'.cell? ⟨b, off + k * 2, none⟩ = some (.int .i64 (gx l (k))) ∧ w'.cell? ⟨b, off + k * 2 + 1, none⟩ = some (.int .i64 (gy l (k))) ∧ w'.cell? ⟨b, off + (k + 1) % l.length * 2, none⟩ = some (.int .i64 (gx l ((k + 1) % l.length))) ∧ w'.cell? ⟨b, off + (k + 1) % l.length * 2 + 1, none⟩ = some (.int .i64 (gy l ((k + 1) % l.length))) ∧ w'.cell? ⟨b, off + (k + l.length - 1) % l.length * 2, none⟩ = some (.int .i64 (gx l ((k + l.length - 1) % l.length))) ∧ w'.cell? ⟨b, off + (k + l.length - 1) % l.length * 2 + 1, none⟩ = some (.int .i64 (gy l ((k + l.length - 1) % l.length)))) _ rfl ?hC25 ?hs25 ?hV25 ?fin25
  case hC25 => (intro w' hx; and_intros <;> (first | (refine (Eq.trans (hx.cells _ _ ?_) ?_) <;> first | assumption | omega | (simp; done) | (simp; omega) | (simp [go_sem, World.cell?_alloc_past, *]; done)) | (have hz := hx.size; first | omega | (simp at hz; omega))))
  case hs25 =>
    repeat' (first
      | exact FSteps.nil
      | refine FSteps.cons ?_ ?_
      | (refine FStep.off_ _ _ _ rfl rfl ?_ (fun _ => rfl) ?_; (focus (intro u w hd; simp [vOf, is, Region.binds] at hd; simp [hd])); (intro w'; exact rfl); done)
      | ((first
          | refine FStep.plain rfl ?_
          | (refine FStep.on_ _ _ _ rfl rfl ?_ ?_; (focus (intro u w hd; simp [vOf, is, Region.binds] at hd; simp [hd]))))
         intro u w hW hC hd K hK
         (try simp [vOf, is, Region.binds] at hd)
         simp only [upd, Nat.reduceEqDiff, if_true, if_false] at hK
         (try simp only [hd] at hK)
         go_simp
         (first
           | (refine hK _ _ ?_ ?_; (first | exact rfl); (repeat (first | exact Ext.refl _ | assumption | apply Ext.alloc | apply Ext.drew | apply Ext.drewN | (refine Ext.trans ?_ (by assumption)))))
           | (go_at_call 73; refine (sturn_any _ _ _ _ _ _ _).mono ?_; rintro e w1 ⟨rfl, hb⟩; (try go_simp); refine hK _ _ ?_ ?_; (first | exact rfl); (repeat (first | exact Ext.refl _ | assumption | apply Ext.alloc | apply Ext.drew | apply Ext.drewN | (refine Ext.trans ?_ (by assumption))))))))
  case hV25 => (simp only [List.forall_mem_cons]; simp [stable_is])
  case fin25 =>
    intro u w2 hW2 hC2 hd
    simp only [AllV, is] at hd
    simp only [hd]
    clear hd
    go_wp2
    go_ret
    exact ⟨rfl, by (repeat (first | exact Ext.refl _ | assumption | apply Ext.alloc | apply Ext.drew | apply Ext.drewN | (refine Ext.trans ?_ (by assumption))))⟩

/-- IsReflex, as both texts give it -/
def isReflV (l : List (Int × Int)) (k : Int) : Bool := hasC l k && reflB l k.toNat

theorem IsReflex_any (A : Option Addr) (l : List (Int × Int)) (c : Nat) (k : Int) (w : World) (hp : RPts w A l) (hn : l.length ≤ 1048576) :
    Calls Try.prog 29 #[.agg #[.slice A l.length c], .int .i64 k] w fun e w' => e = .returned (.bool (isReflV l k)) ∧ Ext w w' := by
  have HB : Hid (∀ w', Ext (w.alloc (.cells #[.slice A l.length c] 29)) w' → w'.cell? ⟨w.heap.size, 0, none⟩ = some (.slice A l.length c)) := fun w' hx => by
    and_intros <;> (((first | rw [hx.cells _ _ (by first | (simp; done) | (simp; omega))] | rw [hx.frozens _ _ (by first | (simp; done) | (simp; omega))]); (first | (simp [go_sem]; done) | (simp [go_sem, World.cell?_alloc_past]; done) | (simp [go_sem, World.frozen?]; done))))
  unfold isReflV
  cases h : hasC l k
  · go_enter Try.func29, Try.ntmps29
    go_wp2_with ((go_at_call 83; refine (hasCorner_any _ _ _ _ _ (hp.ext (by (repeat (first | exact Ext.refl _ | assumption | apply Ext.alloc | apply Ext.drew | apply Ext.drewN | (refine Ext.trans ?_ (by assumption)))))) hn).mono ?_; rintro e w1 ⟨rfl, hb⟩; have hcc := HB.out w1 (by (repeat (first | exact Ext.refl _ | assumption | apply Ext.alloc | apply Ext.drew | apply Ext.drewN | (refine Ext.trans ?_ (by assumption)))))))
    go_ret
    exact ⟨rfl, by (repeat (first | exact Ext.refl _ | assumption | apply Ext.alloc | apply Ext.drew | apply Ext.drewN | (refine Ext.trans ?_ (by assumption))))⟩
  · obtain ⟨m, rfl, hm, _⟩ := hasC_at h
    go_enter Try.func29, Try.ntmps29
    go_wp2_with (first | (go_at_call 83; refine (hasCorner_any _ _ _ _ _ (hp.ext (by (repeat (first | exact Ext.refl _ | assumption | apply Ext.alloc | apply Ext.drew | apply Ext.drewN | (refine Ext.trans ?_ (by assumption)))))) hn).mono ?_; rintro e w1 ⟨rfl, hb⟩; have hcc := HB.out w1 (by (repeat (first | exact Ext.refl _ | assumption | apply Ext.alloc | apply Ext.drew | apply Ext.drewN | (refine Ext.trans ?_ (by assumption)))))) | (go_at_call 84; refine (reflex_any _ _ _ _ _ (hp.ext (by (repeat (first | exact Ext.refl _ | assumption | apply Ext.alloc | apply Ext.drew | apply Ext.drewN | (refine Ext.trans ?_ (by assumption)))))) hn hm).mono ?_; rintro e w1 ⟨rfl, hb⟩; have hcc := HB.out w1 (by (repeat (first | exact Ext.refl _ | assumption | apply Ext.alloc | apply Ext.drew | apply Ext.drewN | (refine Ext.trans ?_ (by assumption)))))))
    go_ret
    exact ⟨rfl, by (repeat (first | exact Ext.refl _ | assumption | apply Ext.alloc | apply Ext.drew | apply Ext.drewN | (refine Ext.trans ?_ (by assumption))))⟩

theorem sIsReflex_any (A : Option Addr) (l : List (Int × Int)) (c : Nat) (k : Int) (w : World) (hp : RPts w A l) (hn : l.length ≤ 1048576) :
    Calls Try.prog 28 #[.agg #[.slice A l.length c], .int .i64 k] w fun e w' => e = .returned (.bool (isReflV l k)) ∧ Ext w w' := by
  have HB : Hid (∀ w', Ext (w.alloc (.cells #[.slice A l.length c] 29)) w' → w'.cell? ⟨w.heap.size, 0, none⟩ = some (.slice A l.length c)) := fun w' hx => by
    and_intros <;> (((first | rw [hx.cells _ _ (by first | (simp; done) | (simp; omega))] | rw [hx.frozens _ _ (by first | (simp; done) | (simp; omega))]); (first | (simp [go_sem]; done) | (simp [go_sem, World.cell?_alloc_past]; done) | (simp [go_sem, World.frozen?]; done))))
  unfold isReflV
  cases h : hasC l k
  · have h' := h
    unfold hasC at h'
    cases hr : roomB l
    · clear h'
      go_enter Try.func28, Try.ntmps28
      go_wp2_with ((go_at_call 22; refine (sRoomOk_any _ _ _ _ (hp.ext (by (repeat (first | exact Ext.refl _ | assumption | apply Ext.alloc | apply Ext.drew | apply Ext.drewN | (refine Ext.trans ?_ (by assumption)))))) hn).mono ?_; rintro e w1 ⟨rfl, hb⟩; have hcc := HB.out w1 (by (repeat (first | exact Ext.refl _ | assumption | apply Ext.alloc | apply Ext.drew | apply Ext.drewN | (refine Ext.trans ?_ (by assumption)))))))
      go_ret
      exact ⟨rfl, by (repeat (first | exact Ext.refl _ | assumption | apply Ext.alloc | apply Ext.drew | apply Ext.drewN | (refine Ext.trans ?_ (by assumption))))⟩
    · rw [hr, Bool.and_true] at h'
      go_enter Try.func28, Try.ntmps28
      go_wp2_with (first | (go_at_call 71; refine (l01In_any _ _ _ _).mono ?_; rintro e w1 ⟨rfl, rfl⟩) | (go_at_call 22; refine (sRoomOk_any _ _ _ _ (hp.ext (by (repeat (first | exact Ext.refl _ | assumption | apply Ext.alloc | apply Ext.drew | apply Ext.drewN | (refine Ext.trans ?_ (by assumption)))))) hn).mono ?_; rintro e w1 ⟨rfl, hb⟩; have hcc := HB.out w1 (by (repeat (first | exact Ext.refl _ | assumption | apply Ext.alloc | apply Ext.drew | apply Ext.drewN | (refine Ext.trans ?_ (by assumption)))))))
      go_ret
      exact ⟨rfl, by (repeat (first | exact Ext.refl _ | assumption | apply Ext.alloc | apply Ext.drew | apply Ext.drewN | (refine Ext.trans ?_ (by assumption))))⟩
  · have h' := h
    unfold hasC at h'
    rw [Bool.and_eq_true] at h'
    obtain ⟨h1, h2⟩ := h'
    obtain ⟨m, rfl, hm, _⟩ := hasC_at h
    go_enter Try.func28, Try.ntmps28
    go_wp2_with (first | (go_at_call 71; refine (l01In_any _ _ _ _).mono ?_; rintro e w1 ⟨rfl, rfl⟩) | (go_at_call 22; refine (sRoomOk_any _ _ _ _ (hp.ext (by (repeat (first | exact Ext.refl _ | assumption | apply Ext.alloc | apply Ext.drew | apply Ext.drewN | (refine Ext.trans ?_ (by assumption)))))) hn).mono ?_; rintro e w1 ⟨rfl, hb⟩; have hcc := HB.out w1 (by (repeat (first | exact Ext.refl _ | assumption | apply Ext.alloc | apply Ext.drew | apply Ext.drewN | (refine Ext.trans ?_ (by assumption)))))) | (go_at_call 82; refine (sReflex_any _ _ _ _ _ (hp.ext (by (repeat (first | exact Ext.refl _ | assumption | apply Ext.alloc | apply Ext.drew | apply Ext.drewN | (refine Ext.trans ?_ (by assumption)))))) hn hm).mono ?_; rintro e w1 ⟨rfl, hb⟩; have hcc := HB.out w1 (by (repeat (first | exact Ext.refl _ | assumption | apply Ext.alloc | apply Ext.drew | apply Ext.drewN | (refine Ext.trans ?_ (by assumption)))))))
    go_ret
    exact ⟨rfl, by (repeat (first | exact Ext.refl _ | assumption | apply Ext.alloc | apply Ext.drew | apply Ext.drewN | (refine Ext.trans ?_ (by assumption))))⟩

end Go.Proofs.Ytngapnmegembaaa
