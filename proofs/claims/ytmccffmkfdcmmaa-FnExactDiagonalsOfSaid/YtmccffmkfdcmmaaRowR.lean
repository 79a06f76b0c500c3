/-
  A row of rows of two numbers, in blocks of the call's own: known whole, compared, marked, looked at again.
-/
import Derived.Test.YtmccffmkfdcmmaaInts
import Derived.Test.YtmccffmkfdcmmaaMarks
import Derived.Test.YtmccffmkfdcmmaaRefl
namespace Go.Proofs.Ytmccffmkfdcmmaa
open Go.RowKit

theorem info_ints : (Try.prog.info? 46).map (fun i => (i.zero, i.size, i.bytes)) = some (some (.slice none 0 0), 1, 24) := by kernel_rfl

/-- the slice over a block of two -/
def sl2 (b : Nat) : Value := .slice (some ⟨b, 0, none⟩) 2 2
/-- the cells of the outer row -/
def rowV (bs : List Nat) : List Value := bs.map sl2
theorem rowV_length (bs : List Nat) : (rowV bs).length = bs.length := by simp [rowV]
theorem rowV_get (bs : List Nat) (k : Nat) (h : k < bs.length) : (rowV bs)[k]? = some (sl2 (bs.getD k 0)) := by
  simp [rowV, List.getD_eq_getElem?_getD, h]
theorem rowV_append (a b : List Nat) : rowV (a ++ b) = rowV a ++ rowV b := by simp [rowV]
/-- point k of a list of points, as a row of two -/
def two (l : List (Int × Int)) (k : Nat) : List Int := [gx l k, gy l k]
theorem two_length (l : List (Int × Int)) (k : Nat) : (two l k).length = 2 := rfl

/-- the blocks bs, distinct, in [lo, hi), hold the pairs of L, each two numbers -/
def Ins (w : World) (lo hi : Nat) (bs : List Nat) (L : List (Int × Int)) : Prop :=
  bs.length = L.length ∧ bs.Nodup ∧ (∀ b, b ∈ bs → lo ≤ b ∧ b < hi) ∧ ∀ k, k < L.length → OwnI w (bs.getD k 0) (bs.getD k 0 + 1) 3 (some ⟨bs.getD k 0, 0, none⟩) (two L k)

theorem ownI_same {w w' : World} {b : Nat} {T : TypeId} {l : List Int} (h : OwnI w b (b + 1) T (some ⟨b, 0, none⟩) l) (hb : w'.heap[b]? = w.heap[b]?) : OwnI w' b (b + 1) T (some ⟨b, 0, none⟩) l := fun hl => by
  obtain ⟨g, cs, e, h1, h2, h3, h4⟩ := h hl
  have e2 : g = b := by omega
  subst e2
  exact ⟨g, cs, e, h1, h2, hb.trans h3, h4⟩
theorem ownI_lt {w : World} {b : Nat} {T : TypeId} {l : List Int} (h : OwnI w b (b + 1) T (some ⟨b, 0, none⟩) l) (hl : 0 < l.length) : b < w.heap.size := by
  obtain ⟨g, cs, e, h1, h2, h3, h4⟩ := h hl
  have e2 : g = b := by omega
  subst e2
  exact heap_lt h3

section
variable {w w' : World} {lo hi lo' hi' : Nat} {bs : List Nat} {L : List (Int × Int)}
theorem getB_mem {bs : List Nat} {k : Nat} (h : k < bs.length) : bs.getD k 0 ∈ bs := by
  rw [List.getD_eq_getElem?_getD, List.getElem?_eq_getElem h]
  exact List.getElem_mem h
theorem Ins.lt (h : Ins w lo hi bs L) : ∀ b, b ∈ bs → b < w.heap.size := fun b hb => by
  obtain ⟨k, hk, rfl⟩ := List.getElem_of_mem hb
  have := ownI_lt (h.2.2.2 k (by rw [← h.1]; exact hk)) (by simp [two])
  rw [List.getD_eq_getElem?_getD, List.getElem?_eq_getElem hk] at this
  exact this
theorem Ins.kept (h : Ins w lo hi bs L) (hb : ∀ b, b ∈ bs → w'.heap[b]? = w.heap[b]?) : Ins w' lo hi bs L :=
  ⟨h.1, h.2.1, h.2.2.1, fun k hk => ownI_same (h.2.2.2 k hk) (hb _ (getB_mem (by rw [h.1]; exact hk)))⟩
theorem Ins.ext (h : Ins w lo hi bs L) (hx : Ext w w') : Ins w' lo hi bs L := h.kept (fun b hb => hx.below.block b (h.lt b hb))
theorem Ins.more (h : Ins w lo hi bs L) (h1 : lo' ≤ lo) (h2 : hi ≤ hi') : Ins w lo' hi' bs L := ⟨h.1, h.2.1, fun b hb => by have := h.2.2.1 b hb; omega, h.2.2.2⟩
theorem Ins.nil : Ins w lo hi [] [] := ⟨rfl, List.nodup_nil, fun b hb => (by cases hb), fun k hk => absurd hk (by simp)⟩
theorem gx_append_left {a b : List (Int × Int)} {k : Nat} (h : k < a.length) : gx (a ++ b) k = gx a k := by
  unfold gx
  rw [List.getD_eq_getElem?_getD, List.getElem?_append_left h, List.getD_eq_getElem?_getD]
theorem gy_append_left {a b : List (Int × Int)} {k : Nat} (h : k < a.length) : gy (a ++ b) k = gy a k := by
  unfold gy
  rw [List.getD_eq_getElem?_getD, List.getElem?_append_left h, List.getD_eq_getElem?_getD]
theorem gx_append_last (a : List (Int × Int)) (x y : Int) : gx (a ++ [(x, y)]) a.length = x := by simp [gx, List.getD_eq_getElem?_getD]
theorem gy_append_last (a : List (Int × Int)) (x y : Int) : gy (a ++ [(x, y)]) a.length = y := by simp [gy, List.getD_eq_getElem?_getD]
/-- one more pair, in a block of its own -/
theorem Ins.snoc (h : Ins w lo hi bs L) {b : Nat} {x y : Int} (h1 : lo ≤ b) (h2 : b < hi) (hn : b ∉ bs) (ho : OwnI w b (b + 1) 3 (some ⟨b, 0, none⟩) [x, y]) : Ins w lo hi (bs ++ [b]) (L ++ [(x, y)]) := by
  refine ⟨by simp [h.1], ?_, fun c hc => ?_, fun k hk => ?_⟩
  · rw [List.nodup_append]
    refine ⟨h.2.1, by simp, fun c hc d hd => ?_⟩
    rw [List.mem_singleton] at hd
    subst hd
    intro e
    subst e
    exact hn hc
  · rw [List.mem_append, List.mem_singleton] at hc
    rcases hc with hc | rfl
    · exact h.2.2.1 c hc
    · exact ⟨h1, h2⟩
  · rw [List.length_append, List.length_singleton] at hk
    by_cases e : k < L.length
    · have e1 : (bs ++ [b]).getD k 0 = bs.getD k 0 := by
        rw [List.getD_eq_getElem?_getD, List.getElem?_append_left (by rw [h.1]; exact e), List.getD_eq_getElem?_getD]
      have e2 : two (L ++ [(x, y)]) k = two L k := by unfold two; rw [gx_append_left e, gy_append_left e]
      rw [e1, e2]
      exact h.2.2.2 k e
    · have e0 : k = L.length := by omega
      have e1 : (bs ++ [b]).getD k 0 = b := by
        rw [e0, ← h.1]
        simp [List.getD_eq_getElem?_getD]
      have e2 : two (L ++ [(x, y)]) k = [x, y] := by unfold two; rw [e0, gx_append_last, gy_append_last]
      rw [e1, e2]
      exact ho
end

/-- The slice '.slice A L.length c' owns rows of two that read as L: all blocks lie in [lo, hi). -/
def OwnR (w : World) (lo hi : Nat) (T : TypeId) (A : Option Addr) (L : List (Int × Int)) : Prop :=
  0 < L.length → ∃ g cs bs, A = some ⟨g, 0, none⟩ ∧ lo ≤ g ∧ g < hi ∧ g ∉ bs ∧ w.heap[g]? = some (.cells cs T (0, 0)) ∧ (∀ k, k < L.length → cs[k]? = some (sl2 (bs.getD k 0))) ∧ Ins w lo hi bs L

/-- The slice '.slice A L.length c' reads as the rows of two L. -/
def RRows (w : World) (A : Option Addr) (L : List (Int × Int)) : Prop :=
  0 < L.length → ∃ g, A = some ⟨g, 0, none⟩ ∧ g < w.heap.size ∧ ∀ k, k < L.length → ∃ b, w.cell? ⟨g, k, none⟩ = some (sl2 b) ∧ RInts w (some ⟨b, 0, none⟩) (two L k)

section
variable {w w' : World} {lo hi lo' hi' : Nat} {T : TypeId} {A : Option Addr} {L : List (Int × Int)}
theorem OwnR.ext (h : OwnR w lo hi T A L) (hx : Ext w w') : OwnR w' lo hi T A L := fun hl =>
  let ⟨g, cs, bs, e, h1, h2, h3, h4, h5, h6⟩ := h hl
  ⟨g, cs, bs, e, h1, h2, h3, (hx.below.block g (heap_lt h4)).trans h4, h5, h6.ext hx⟩
theorem OwnR.more (h : OwnR w lo hi T A L) (h1 : lo' ≤ lo) (h2 : hi ≤ hi') : OwnR w lo' hi' T A L := fun hl =>
  let ⟨g, cs, bs, e, a1, a2, h3, h4, h5, h6⟩ := h hl
  ⟨g, cs, bs, e, by omega, by omega, h3, h4, h5, h6.more h1 h2⟩
theorem OwnR.nil : OwnR w lo hi T A [] := fun h => absurd h (by simp)
theorem OwnR.r (h : OwnR w lo hi T A L) : RRows w A L := fun hl => by
  obtain ⟨g, cs, bs, e, a1, a2, h3, h4, h5, h6⟩ := h hl
  exact ⟨g, e, heap_lt h4, fun k hk => ⟨bs.getD k 0, by simp [World.cell?, h4, h5 k hk], (h6.2.2.2 k hk).r⟩⟩
theorem OwnR.chg (h : OwnR w lo' hi' T A L) (hc : Chg lo hi w w') (hd : hi' ≤ lo ∨ hi ≤ lo') : OwnR w' lo' hi' T A L := fun hl =>
  let ⟨g, cs, bs, e, a1, a2, h3, h4, h5, h6⟩ := h hl
  ⟨g, cs, bs, e, a1, a2, h3, (hc.block g (by omega)).trans h4, h5, h6.kept (fun b hb => hc.block b (by have := h6.2.2.1 b hb; omega))⟩
theorem RRows.ext (h : RRows w A L) (hx : Ext w w') : RRows w' A L := fun hl =>
  let ⟨g, e, h1, h2⟩ := h hl
  ⟨g, e, Nat.lt_of_lt_of_le h1 hx.size, fun k hk => let ⟨b, h3, h4⟩ := h2 k hk; ⟨b, (hx.cells _ _ h1).trans h3, h4.ext hx⟩⟩
theorem RRows.nil : RRows w A [] := fun h => absurd h (by simp)
theorem RRows.at_ (h : RRows w A L) {k : Nat} (hk : k < L.length) : ∃ g b, A = some ⟨g, 0, none⟩ ∧ g < w.heap.size ∧ w.cell? ⟨g, k, none⟩ = some (.slice (some ⟨b, 0, none⟩) 2 2) ∧ RInts w (some ⟨b, 0, none⟩) (two L k) :=
  let ⟨g, e, h1, h2⟩ := h (by omega)
  let ⟨b, h3, h4⟩ := h2 k hk
  ⟨g, b, e, h1, h3, h4⟩
theorem Mut.ownR {R : Nat → Prop} (h : Mut R w w') (ho : OwnR w lo hi T A L) (hr : ∀ k, lo ≤ k → k < hi → ¬ R k) : OwnR w' lo hi T A L := fun hl =>
  let ⟨g, cs, bs, e, a1, a2, h3, h4, h5, h6⟩ := ho hl
  ⟨g, cs, bs, e, a1, a2, h3, (h.block g (heap_lt h4) (hr g a1 a2)).trans h4, h5, h6.kept (fun b hb => h.block b (h6.lt b hb) (by have := h6.2.2.1 b hb; exact hr b this.1 this.2))⟩
end

/-- an outer row of the call's own, and the inner blocks -/
theorem OwnR.of_own {w : World} {base T : Nat} {A : Option Addr} {n c : Nat} {L : List (Int × Int)} {bs : List Nat} (h : w.ownsRow base T 1 (.slice A n c) n (rowV bs)) (hi : Ins w base w.heap.size bs L) (hg : ∀ g, (Value.slice A n c).ownBlock = some g → g ∉ bs) : n = L.length ∧ OwnR w base w.heap.size T A L := by
  have h1 : n = L.length := by have := h.1; rw [rowV_length, hi.1] at this; omega
  refine ⟨h1, fun hl => ?_⟩
  rcases h.2 with ⟨_, h2⟩ | ⟨g, cap, cur, hv, hb, hh, hcap, _, hsz, htake⟩
  · omega
  · have hg' := hg g (by rw [hv]; rfl)
    injection hv with hA _ hc
    subst hA hc
    refine ⟨g, cur, bs, rfl, hb, heap_lt hh, hg', hh, fun k hk => ?_, hi⟩
    have := rowV_get bs k (by rw [hi.1]; exact hk)
    rw [← htake, List.getElem?_take, if_pos (by omega)] at this
    simpa using this

/-- a call that returns a new slice of rows of two -/
def RetR2 (T : TypeId) (x : List (Int × Int)) (w : World) (e : Ending) (w' : World) : Prop := ∃ A' c', e = .returned (.slice A' x.length c') ∧ OwnR w' w.heap.size w'.heap.size T A' x ∧ Ext w w'

theorem eqIntS_two (A B : Option Addr) (l : List (Int × Int)) (k : Nat) (w : World) (ha : RInts w A (two l k)) (hb : RInts w B (two l k)) :
    Calls Try.prog 30 #[.slice A 2 2, .slice B 2 2] w fun e w' => e = .returned (.bool true) ∧ Ext w w' := eqIntS_same A B (two l k) 2 2 w ha hb (by simp [two])
theorem heldIntS_two (A : Option Addr) (k0 : Int) (w : World) (h : RInts w A (markI k0 2)) (h0 : 0 ≤ k0) (h1 : k0 ≤ 100000000) :
    Calls Try.prog 34 #[.slice A 2 2, .int .i64 k0] w fun e w' => e = .returned (.int .i64 (k0 + 2)) ∧ w = w' := heldIntS_any A 2 2 k0 w h (by omega) h0 h1
theorem markIntS_two (b : Nat) (l : List (Int × Int)) (k : Nat) (k0 : Int) (w : World) (h : OwnI w b (b + 1) 3 (some ⟨b, 0, none⟩) (two l k)) (h0 : 0 ≤ k0) (h1 : k0 ≤ 100000000) :
    Calls Try.prog 33 #[.slice (some ⟨b, 0, none⟩) 2 2, .int .i64 k0] w fun e w' => e = .returned (.int .i64 (k0 + 2)) ∧ Chg b (b + 1) w w' ∧ OwnI w' b (b + 1) 3 (some ⟨b, 0, none⟩) (markI k0 2) := markIntS_any _ (two l k) 2 b (b + 1) k0 w h (by simp [two]) h0 h1
theorem two_markL (k0 : Int) (n k : Nat) (h : k < n) : two (markL k0 n) k = markI (k0 + 2 * (k : Int)) 2 := by
  unfold two
  rw [gx_markL k0 n k h, gy_markL k0 n k h]
  simp [markI, List.range_succ]

set_option maxRecDepth 100000 in
theorem eqIntSS_same (A B : Option Addr) (l : List (Int × Int)) (c d : Nat) (w : World) (ha : RRows w A l) (hb : RRows w B l) (hn : l.length ≤ 1048576) :
    Calls Try.prog 23 #[.slice A l.length c, .slice B l.length d] w fun e w' => e = .returned (.bool true) ∧ Ext w w' := by
  go_enter Try.func23, Try.ntmps23
  go_wp2
  go_loopw [5] (fun i wr => ∃ k : Nat, k ≤ l.length ∧ i = .int .i64 k ∧ Ext w wr) (fun i _ => l.length - (intOf i).toNat)
  case atStart => exact ⟨0, Nat.zero_le _, rfl, Ext.refl w⟩
  case round =>
    obtain ⟨k, hk, rfl, hbl⟩ := hrel
    by_cases hlt : k < l.length
    · obtain ⟨g, b, rfl, hz1, hx, hr⟩ := (ha.ext hbl).at_ hlt
      obtain ⟨g', b', rfl, hz2, hx', hr'⟩ := (hb.ext hbl).at_ hlt
      go_wp2
      refine wp_flow (by kernel_rfl) (by kernel_rfl) (fun u => ⟨#[_, _, _, _, _, _, _, _, _, _, _, _, _, _, _, _, _, u 0, u 1, u 2, u 3, u 4, u 5, u 6, u 7, u 8, u 9], _⟩) (fun i => List.getD [_, _, _, _, _, _, _, _, _, _] i undef) [is ?v1_0, is ?v1_1, is ?v1_2, is ?v1_3, is ?v1_4, is ?v1_5, is ?v1_6, is ?v1_7, is ?v1_8, is ?v1_9] (fun w' => w'.cell? ⟨g, k, none⟩ = some (.slice (some ⟨b, 0, none⟩) 2 2) ∧ w'.cell? ⟨g', k, none⟩ = some (.slice (some ⟨b', 0, none⟩) 2 2)) _ rfl ?hC1 ?hs1 ?hV1 ?fin1
      case hC1 => (intro w' hx; and_intros <;> (first | (refine (Eq.trans (hx.cells _ _ ?_) ?_) <;> first | assumption | omega | (simp; done) | (simp; omega) | (simp [go_sem, World.cell?_alloc_past, *]; done)) | (have hz := hx.size; first | omega | (simp at hz; omega))))
      case hs1 =>
        repeat' (first
          | exact FSteps.nil
          | refine FSteps.cons ?_ ?_
          | (refine FStep.off_ _ _ _ rfl rfl ?_ (fun _ => rfl) ?_; (focus (intro u w hd; simp [vOf, is, Region.binds] at hd; simp [hd])); (intro w'; exact rfl); done)
          | ((first
              | refine FStep.plain rfl ?_
              | (refine FStep.on_ _ _ _ rfl rfl ?_ ?_; (focus (intro u w hd; simp [vOf, is, Region.binds] at hd; simp [hd]))))
             intro u w hW hC hd K hK
             (try simp [vOf, is, Region.binds] at hd)
             simp only [upd, Nat.reduceEqDiff, if_true, if_false] at hK
             (try simp only [hd] at hK)
             go_simp
             (first
               | (refine hK _ _ ?_ ?_; (first | exact rfl); (repeat (first | exact Ext.refl _ | assumption | apply Ext.alloc | apply Ext.drew | apply Ext.drewN | (refine Ext.trans ?_ (by assumption)))))
               | (go_at_call 30; refine (eqIntS_two _ _ l k _ (hr.ext (by (repeat (first | exact Ext.refl _ | assumption | apply Ext.alloc | apply Ext.drew | apply Ext.drewN | (refine Ext.trans ?_ (by assumption)))))) (hr'.ext (by (repeat (first | exact Ext.refl _ | assumption | apply Ext.alloc | apply Ext.drew | apply Ext.drewN | (refine Ext.trans ?_ (by assumption))))))).mono ?_; rintro e w1 ⟨rfl, hb⟩; (try go_simp); refine hK _ _ ?_ ?_; (first | exact rfl); (repeat (first | exact Ext.refl _ | assumption | apply Ext.alloc | apply Ext.drew | apply Ext.drewN | (refine Ext.trans ?_ (by assumption))))))))
      case hV1 => (simp only [List.forall_mem_cons]; simp [stable_is])
      case fin1 =>
        intro u w2 hW2 hC2 hd
        simp only [AllV, is] at hd
        simp only [hd]
        clear hd
        clear hC2 hx hx'
        go_wp2
        go_roundw
        case rel => exact ⟨k + 1, by omega, by go_num, by (repeat (first | exact Ext.refl _ | assumption | apply Ext.alloc | apply Ext.drew | apply Ext.drewN | (refine Ext.trans ?_ (by assumption))))⟩
        case measure => simp [intOf]; omega
    · go_wp2
      go_ret
      exact ⟨rfl, hbl⟩

set_option maxRecDepth 100000 in
theorem heldIntSS_any (A : Option Addr) (n c : Nat) (k0 : Int) (w : World) (h : RRows w A (markL k0 n)) (hn : n ≤ 1048576) (h0 : 0 ≤ k0) (h1 : k0 ≤ 10000000) :
    Calls Try.prog 26 #[.slice A n c, .int .i64 k0] w fun e w' => e = .returned (.int .i64 (k0 + 2 * (n : Int))) ∧ w = w' := by
  go_enter Try.func26, Try.ntmps26
  go_wp2
  go_loopw [1, 5] (fun q i wr => ∃ k : Nat, k ≤ n ∧ i = .int .i64 k ∧ q = .int .i64 (k0 + 2 * (k : Int)) ∧ w = wr) (fun _ i _ => n - (intOf i).toNat)
  case atStart => exact ⟨0, Nat.zero_le _, rfl, by simp, rfl⟩
  case round =>
    obtain ⟨k, hk, rfl, rfl, rfl⟩ := hrel
    by_cases hlt : k < n
    · obtain ⟨g, b, rfl, _, hx, hr⟩ := h.at_ (k := k) (by rw [markL_length]; exact hlt)
      rw [two_markL k0 n k hlt] at hr
      go_wp2_with (go_at_call 34; refine (heldIntS_two _ _ _ hr (by omega) (by omega)).mono ?_; rintro e w1 ⟨rfl, rfl⟩)
      go_roundw
      case rel => exact ⟨k + 1, by omega, by go_num, by go_num, by first | rfl | trivial⟩
      case measure => simp [intOf]; omega
    · have e : k = n := by omega
      have E := hide e
      clear e
      go_wp2
      go_ret
      exact ⟨ret_int (by rw [E.out]), by first | rfl | trivial⟩

theorem two_append_left {a b : List (Int × Int)} {k : Nat} (h : k < a.length) : two (a ++ b) k = two a k := by unfold two; rw [gx_append_left h, gy_append_left h]
theorem two_mark_drop (k0 : Int) (L : List (Int × Int)) (k j : Nat) (hk : k ≤ j) (hj : j < L.length) : two (markL k0 k ++ L.drop k) j = two L j := by
  have e : (markL k0 k).length = k := markL_length k0 k
  unfold two gx gy
  rw [List.getD_eq_getElem?_getD, List.getElem?_append_right (by omega), e, List.getElem?_drop, List.getD_eq_getElem?_getD, show k + (j - k) = j by omega]
theorem Ins.mark {w w' : World} {lo hi : Nat} {bs : List Nat} {L : List (Int × Int)} {k0 : Int} {k : Nat} (hk : k < L.length) (h : Ins w lo hi bs (markL k0 k ++ L.drop k)) (hc : Chg (bs.getD k 0) (bs.getD k 0 + 1) w w') (ho : OwnI w' (bs.getD k 0) (bs.getD k 0 + 1) 3 (some ⟨bs.getD k 0, 0, none⟩) (markI (k0 + 2 * (k : Int)) 2)) : Ins w' lo hi bs (markL k0 (k + 1) ++ L.drop (k + 1)) := by
  have hl : bs.length = L.length := by have := h.1; simp [markL_length] at this; omega
  refine ⟨by simp [markL_length]; omega, h.2.1, h.2.2.1, fun j hj => ?_⟩
  have hj' : j < L.length := by simp [markL_length] at hj; omega
  by_cases e : j = k
  · subst e
    rw [two_append_left (by rw [markL_length]; omega), two_markL _ _ _ (by omega)]
    exact ho
  · have hne : bs.getD j 0 ≠ bs.getD k 0 := fun e2 => by
      rw [List.getD_eq_getElem?_getD, List.getD_eq_getElem?_getD, List.getElem?_eq_getElem (by omega), List.getElem?_eq_getElem (by omega)] at e2
      exact e ((List.getElem_inj h.2.1).1 (by simpa using e2))
    have h0 := h.2.2.2 j (by simp [markL_length]; omega)
    have e3 : two (markL k0 (k + 1) ++ L.drop (k + 1)) j = two (markL k0 k ++ L.drop k) j := by
      rcases Nat.lt_or_ge j k with hlt | hge
      · rw [two_append_left (by rw [markL_length]; omega), two_append_left (by rw [markL_length]; omega), two_markL _ _ _ (by omega), two_markL _ _ _ (by omega)]
      · rw [two_mark_drop _ _ _ _ (by omega) hj', two_mark_drop _ _ _ _ (by omega) hj']
    rw [e3]
    exact ownI_same h0 (hc.block _ (by omega))

theorem Chg.trans2 {lo hi lo' hi' : Nat} {a b c : World} (h : Chg lo hi a b) (k : Chg lo' hi' b c) (h1 : lo ≤ lo') (h2 : hi' ≤ hi) : Chg lo hi a c :=
  ⟨k.os.trans h.os, k.tape.trans h.tape, k.output.trans h.output, k.size.trans h.size, fun j hj => (k.block j (by omega)).trans (h.block j hj)⟩

set_option maxRecDepth 100000 in
theorem markIntSS_any (A : Option Addr) (l : List (Int × Int)) (c lo hi : Nat) {T : TypeId} (k0 : Int) (w : World) (h : OwnR w lo hi T A l) (hn : l.length ≤ 1048576) (h0 : 0 ≤ k0) (h1 : k0 ≤ 10000000) :
    Calls Try.prog 25 #[.slice A l.length c, .int .i64 k0] w fun e w' => e = .returned (.int .i64 (k0 + 2 * (l.length : Int))) ∧ Chg lo hi w w' ∧ OwnR w' lo hi T A (markL k0 l.length) := by
  by_cases hz : 0 < l.length
  · obtain ⟨g, cs, bs, rfl, g1, g2, g3, g4, g5, hins⟩ := h hz
    have hbl := hins.1
    clear h
    go_enter Try.func25, Try.ntmps25
    go_wp2
    go_loopw [1, 5] (fun q i wr => ∃ k : Nat, k ≤ l.length ∧ i = .int .i64 k ∧ q = .int .i64 (k0 + 2 * (k : Int)) ∧ Chg lo hi w wr ∧ wr.heap[g]? = some (.cells cs T (0, 0)) ∧ Ins wr lo hi bs (markL k0 k ++ l.drop k)) (fun _ i _ => l.length - (intOf i).toNat)
    case atStart => exact ⟨0, Nat.zero_le _, rfl, by simp, Chg.refl _ _ _, g4, by simpa [markL] using hins⟩
    case round =>
      obtain ⟨k, hk, rfl, rfl, hch, hg, ho⟩ := hrel
      clear hins g4
      by_cases hlt : k < l.length
      · have hlen : k < (markL k0 k ++ l.drop k).length := by simp [markL_length]; omega
        have hcell : wr.cell? ⟨g, k, none⟩ = some (.slice (some ⟨bs.getD k 0, 0, none⟩) 2 2) := by simpa [World.cell?, hg, sl2] using g5 k hlt
        have hz1 := heap_lt hg
        have hm := getB_mem (bs := bs) (k := k) (by omega)
        have hr := ho.2.2.1 _ hm
        have hgb : g ≠ bs.getD k 0 := fun e => g3 (e ▸ hm)
        have hown := ho.2.2.2 k hlen
        obtain ⟨b, hb⟩ : ∃ b, b = bs.getD k 0 := ⟨_, rfl⟩
        have HB := hide hb
        rw [← hb] at hcell hm hr hgb hown
        clear hb
        go_wp2_with (go_at_call 33; refine (markIntS_two b _ k _ _ hown (by omega) (by omega)).mono ?_; rintro e w1 ⟨rfl, hc1, ho1⟩)
        go_roundw
        case rel => exact ⟨k + 1, by omega, by go_num, by go_num, hch.trans2 hc1 hr.1 hr.2, (hc1.block g (by omega)).trans hg, by have e := HB.out; subst e; exact ho.mark hlt hc1 ho1⟩
        case measure => simp [intOf]; omega
      · have e : k = l.length := by omega
        have E := hide e
        clear e
        go_wp2
        go_ret
        refine ⟨ret_int (by rw [E.out]), hch, fun _ => ?_⟩
        rw [E.out] at ho
        simp only [List.drop_length, List.append_nil] at ho
        exact ⟨g, cs, bs, rfl, g1, g2, g3, hg, fun j hj => g5 j (by rw [markL_length] at hj; exact hj), ho⟩
  · have e : l = [] := List.eq_nil_of_length_eq_zero (by omega)
    subst e
    clear h hz
    go_enter Try.func25, Try.ntmps25
    go_wp2
    go_loopw [1, 5] (fun q i wr => q = .int .i64 k0 ∧ i = .int .i64 0 ∧ w = wr) (fun _ i _ => 0)
    case atStart => exact ⟨rfl, rfl, rfl⟩
    case round =>
      obtain ⟨rfl, rfl, rfl⟩ := hrel
      go_wp2
      go_ret
      exact ⟨ret_int (by simp), Chg.refl _ _ _, OwnR.nil⟩

end Go.Proofs.Ytmccffmkfdcmmaa
