/-
  Contracts: what the statements do with rows of strings: compare, mark, look at the marks.
-/
import Derived.Test.YtkdhgngpapfkdaaStr
import Derived.Test.YtkdhgngpapfkdaaFmt
namespace Go.Proofs.Ytkdhgngpapfkdaa
open Go.RowKit
open Go.Lib (decDigits)

/-- w' is w with new blocks; of the old ones only those from lo up to hi may have turned. -/
structure Tur (lo hi : Nat) (w w' : World) : Prop where
  os : w'.os = w.os
  tape : w'.tape = w.tape
  output : w'.output = w.output
  size : w.heap.size ≤ w'.heap.size
  block : ∀ k, k < w.heap.size → ¬ (lo ≤ k ∧ k < hi) → w'.heap[k]? = w.heap[k]?
section
variable {lo hi : Nat} {w a b : World}
theorem Tur.of_ext (h : Ext w a) : Tur lo hi w a := ⟨h.below.os, h.below.tape, h.below.output, h.size, fun k hk _ => h.below.block k hk⟩
theorem Tur.refl (w : World) : Tur lo hi w w := Tur.of_ext (Ext.refl w)
theorem Tur.ext (h : Tur lo hi w a) (hx : Ext a b) : Tur lo hi w b :=
  ⟨hx.below.os.trans h.os, hx.below.tape.trans h.tape, hx.below.output.trans h.output, Nat.le_trans h.size hx.size, fun k hk hr => (hx.below.block k (Nat.lt_of_lt_of_le hk h.size)).trans (h.block k hk hr)⟩
theorem Tur.set (h : Tur lo hi w a) {g : Nat} (h1 : lo ≤ g) (h2 : g < hi) (o : Nat) (u : Value) : Tur lo hi w (a.setCell ⟨g, o, none⟩ u) :=
  ⟨h.os, h.tape, h.output, by rw [size_setCell]; exact h.size, fun k hk hr => (Below.heap_setCell _ _ _ _ (fun e => hr (by subst e; exact ⟨h1, h2⟩))).trans (h.block k hk hr)⟩
theorem Tur.ownV {lo' hi' : Nat} {T : TypeId} {A : Option Addr} {xs : List Value} (h : Tur lo hi w a) (ho : OwnV w lo' hi' T A xs) (hr : hi' ≤ lo ∨ hi ≤ lo') : OwnV a lo' hi' T A xs := fun hl =>
  let ⟨g, cs, e, a1, a2, h3, h4⟩ := ho hl
  ⟨g, cs, e, a1, a2, (h.block g (hv_lt h3) (by omega)).trans h3, h4⟩
theorem Tur.below {v : World} (hv : Ext v w) (h : Tur lo hi w a) (hr : v.heap.size ≤ lo) : Below v.heap.size v a :=
  ⟨h.os.trans hv.below.os, h.tape.trans hv.below.tape, h.output.trans hv.below.output, Nat.le_trans hv.size h.size, fun k hk => (h.block k (Nat.lt_of_lt_of_le hk hv.size) (fun hc => by omega)).trans (hv.below.block k hk)⟩
end

/-- block g, a row of one-cell values -/
def OwnVB (w : World) (g : Nat) (T : TypeId) (xs : List Value) : Prop :=
  ∃ cs : Array Value, w.heap[g]? = some (.cells cs T (0, 0)) ∧ xs.length ≤ cs.size ∧ ∀ k, k < xs.length → cs[k]? = xs[k]?
theorem OwnVB.cell {w : World} {g : Nat} {T : TypeId} {xs : List Value} (h : OwnVB w g T xs) {k : Nat} (hk : k < xs.length) : w.cell? ⟨g, k, none⟩ = some xs[k] := by
  obtain ⟨cs, h1, _, h3⟩ := h
  simp [World.cell?, h1, h3 k hk, hk]
theorem OwnVB.frozen {w : World} {g : Nat} {T : TypeId} {xs : List Value} (h : OwnVB w g T xs) (o : Nat) : w.frozen? ⟨g, o, none⟩ = false := by
  obtain ⟨cs, h1, _⟩ := h
  simp [World.frozen?, h1]
theorem OwnVB.ext {w w' : World} {g : Nat} {T : TypeId} {xs : List Value} (h : OwnVB w g T xs) (hx : Ext w w') : OwnVB w' g T xs := by
  obtain ⟨cs, h1, h2⟩ := h
  exact ⟨cs, (hx.below.block g (hv_lt h1)).trans h1, h2⟩
theorem OwnVB.lt {w : World} {g : Nat} {T : TypeId} {xs : List Value} (h : OwnVB w g T xs) : g < w.heap.size := by
  obtain ⟨cs, h1, h2⟩ := h
  exact hv_lt h1
theorem OwnVB.set {w : World} {g : Nat} {T : TypeId} {xs : List Value} (h : OwnVB w g T xs) {k : Nat} (hk : k < xs.length) (u : Value) : OwnVB (w.setCell ⟨g, k, none⟩ u) g T (xs.set k u) := by
  obtain ⟨cs, h1, h2, h3⟩ := h
  refine ⟨cs.setIfInBounds k u, by simp [World.setCell, Array.getElem?_modify, h1], by simpa using h2, fun j hj => ?_⟩
  rw [List.length_set] at hj
  rw [Array.getElem?_setIfInBounds, List.getElem?_set]
  by_cases e : k = j
  · subst e; rw [if_pos rfl, if_pos rfl, if_pos (by omega), if_pos hj]
  · rw [if_neg e, if_neg e]; exact h3 j hj

/-- a mark's text -/
def mtS (k : Nat) : ByteArray := (⟨#[109]⟩ : ByteArray) ++ ⟨(ddz k).toArray⟩
def markV (k0 n : Nat) : List Value := (List.range n).map fun i => .string (mtS (k0 + i))
theorem markV_length (k0 n : Nat) : (markV k0 n).length = n := by simp [markV]
theorem markV_get (k0 n k : Nat) (h : k < n) : (markV k0 n)[k]? = some (.string (mtS (k0 + k))) := by simp [markV, h]
theorem markV_step (k0 : Nat) (xs : List Value) (k : Nat) (h : k < xs.length) : markV k0 (k + 1) ++ xs.drop (k + 1) = (markV k0 k ++ xs.drop k).set k (.string (mtS (k0 + k))) := by
  have e : (markV k0 k).length = k := markV_length k0 k
  rw [List.set_append_right _ _ (by omega), e, Nat.sub_self, List.drop_eq_getElem_cons h, List.set_cons_zero]
  unfold markV
  rw [List.range_succ, List.map_append, List.append_assoc]
  rfl

set_option maxRecDepth 100000 in
set_option maxHeartbeats 1600000 in
theorem markText_any (n : Nat) (w : World) (h0 : 0 < n) (h1 : n ≤ 1000000000) :
    Calls Try.prog 27 #[.int .i64 n] w fun e w' => e = .returned (.string (mtS n)) ∧ Ext w w' := by
  have hl : ∀ m : Nat, m ≤ 1000000000 → (ddz m).length ≤ 30 := fun m hm => by
    unfold ddz
    split
    · simp
    · have := Lib.itoa_length_le (m : Int) (by omega) (by omega)
      rw [Lib.itoa_nonneg] at this
      omega
  obtain ⟨D, hD⟩ : ∃ D, D = ddz n := ⟨_, rfl⟩
  have HL := hide (show D.length ≤ 30 by rw [hD]; exact hl n h1)
  have HR := hide hD
  clear hl hD
  go_enter Try.func27, Try.ntmps27
  go_wp2
  go_loopw [0, 3] (fun x t wr => ∃ (m : Nat) (sv : ByteArray), x = .int .i64 m ∧ t = .string sv ∧ m ≤ 1000000000 ∧ Ext w wr ∧ (sv.size : Int) ≤ 30 ∧ Hid (ddz m ++ byl sv = D)) (fun x _ _ => (intOf x).natAbs)
  case atStart => exact ⟨n, _, rfl, rfl, h1, by (repeat (first | exact Ext.refl _ | assumption | apply Ext.alloc | apply Ext.drew | apply Ext.drewN | (refine Ext.trans ?_ (by assumption)))), by decide, hide (by rw [HR.out]; simp [byl])⟩
  case round =>
    obtain ⟨m, sv, rfl, rfl, hm1, hbl, hsv, H3⟩ := hrel
    obtain ⟨wq, rfl⟩ : ∃ wq : World, wq = wr := ⟨_, rfl⟩
    by_cases hz : m = 0
    · subst hz
      have e : sv = ⟨D.toArray⟩ := by have h := H3.out; simp [ddz] at h; rw [← h, mk_byl]
      subst e
      have hDl : D.length ≤ 30 := HL.out
      have hDi : (D.length : Int) ≤ 30 := by omega
      go_wp2
      exact bodyPost_ret (v := .string ((⟨#[109]⟩ : ByteArray) ++ ⟨D.toArray⟩)) (by simp [results, Try.results27, go_sem]) rfl ⟨by rw [HR.out]; rfl, by (repeat (first | exact Ext.refl _ | assumption | apply Ext.alloc | apply Ext.drew | apply Ext.drewN | (refine Ext.trans ?_ (by assumption))))⟩
    · have hcv := fun b W => conv_one (src := 25) (dst := 9) Try.underlying25 Try.underlying5 Try.underlying9 b W
      obtain ⟨dg, hdg⟩ : ∃ dg, dg = m % 10 := ⟨_, rfl⟩
      obtain ⟨q, hq⟩ : ∃ q, q = m / 10 := ⟨_, rfl⟩
      have H4 := hide (show ddz q ++ (figN dg :: byl sv) = D by have h := H3.out; rw [ddz_step m (by omega), List.append_assoc] at h; rw [hq, hdg]; exact h)
      have hszl : (sv.size : Int) ≤ 29 := by
        have h := congrArg List.length H4.out
        simp only [List.length_append, List.length_cons, byl_length] at h
        have := HL.out
        omega
      have hd10 : dg < 10 := by omega
      have HQ := hide hq
      have r0 : (0 : Int) < (m : Int) := by omega
      have r1 : (m : Int).tmod 10 = (dg : Int) := by rw [Int.tmod_eq_emod_of_nonneg (by omega)]; omega
      have r3 : (m : Int).tdiv 10 = (q : Int) := by rw [Int.tdiv_eq_ediv_of_nonneg (by omega)]; omega
      have r5 : 48 + (dg : Int) = ((figN dg).toNat : Int) := by rw [figN_toNat (by omega), if_pos hd10]; omega
      have r6 : IntKind.u8.wrap ((figN dg).toNat : Int) = ((figN dg).toNat : Int) := wraps_u8 _ (by omega) (by omega)
      have R2 := hide (show wrap64 (q : Int) = (q : Int) by unfold wrap64; omega)
      have hqm : q ≤ 1000000000 := by omega
      clear hdg hq
      go_wp2
      go_roundw
      case rel => exact ⟨q, _, by first | rfl | (rw [R2.out]), rfl, hqm, by (repeat (first | exact Ext.refl _ | assumption | apply Ext.alloc | apply Ext.drew | apply Ext.drewN | (refine Ext.trans ?_ (by assumption)))), by simp [go_sem]; omega, hide (by rw [byl_append]; exact H4.out)⟩
      case measure => have := HQ.out; (try rw [R2.out]); simp [intOf]; omega

set_option maxRecDepth 100000 in
theorem eqStringS_same (A B : Option Addr) (l : List ByteArray) (c d : Nat) (w : World) (ha : RV w A (strs l)) (hb : RV w B (strs l)) (hn : l.length ≤ 1048576) :
    Calls Try.prog 15 #[.slice A l.length c, .slice B l.length d] w fun e w' => e = .returned (.bool true) ∧ Ext w w' := by
  go_enter Try.func15, Try.ntmps15
  go_wp2
  go_loopw [5] (fun i wr => ∃ k : Nat, k ≤ l.length ∧ i = .int .i64 k ∧ Ext w wr) (fun i _ => l.length - (intOf i).toNat)
  case atStart => exact ⟨0, Nat.zero_le _, rfl, Ext.refl w⟩
  case round =>
    obtain ⟨k, hk, rfl, hbl⟩ := hrel
    by_cases hlt : k < l.length
    · obtain ⟨b, off, rfl, hz1, hx⟩ := (ha.ext hbl) (by rw [strs_length]; omega)
      obtain ⟨b', off', rfl, hz2, hx'⟩ := (hb.ext hbl) (by rw [strs_length]; omega)
      have y1 := (hx k (by rw [strs_length]; exact hlt)).trans (strs_get l k hlt)
      have y2 := (hx' k (by rw [strs_length]; exact hlt)).trans (strs_get l k hlt)
      clear hx hx'
      obtain ⟨t, ht⟩ : ∃ t, t = l[k] := ⟨_, rfl⟩
      rw [← ht] at y1 y2
      clear ht
      go_wp2
      refine wp_flow (by kernel_rfl) (by kernel_rfl) (fun u => ⟨#[_, _, _, _, _, _, _, _, _, _, _, _, _, _, _, _, _, u 0, u 1, u 2, u 3, u 4, u 5, u 6, u 7, u 8], _⟩) (fun i => List.getD [_, _, _, _, _, _, _, _, _] i undef) [is ?v4_0, is ?v4_1, is ?v4_2, is ?v4_3, is ?v4_4, is ?v4_5, is ?v4_6, is ?v4_7, is ?v4_8] (fun w' => w'.cell? ⟨b, off + k, none⟩ = some (.string t) ∧ w'.cell? ⟨b', off' + k, none⟩ = some (.string t)) _ rfl ?hC4 ?hs4 ?hV4 ?fin4
      case hC4 => (intro w' hx; and_intros <;> (first | (refine (Eq.trans (hx.cells _ _ ?_) ?_) <;> first | assumption | omega | (simp; done) | (simp; omega) | (simp [go_sem, World.cell?_alloc_past, *]; done)) | (have hz := hx.size; first | omega | (simp at hz; omega))))
      case hs4 =>
        repeat' (first
          | exact FSteps.nil
          | refine FSteps.cons ?_ ?_
          | (refine FStep.off_ _ _ _ rfl rfl ?_ (fun _ => rfl) ?_; (focus (intro u w hd; simp [vOf, is, Region.binds] at hd; simp [hd])); (intro w'; exact rfl); done)
          | ((first
              | refine FStep.plain rfl ?_
              | (refine FStep.on_ _ _ _ rfl rfl ?_ ?_; (focus (intro u w hd; simp [vOf, is, Region.binds] at hd; simp [hd]))))
             intro u w hW hC hd K hK
             (try simp [vOf, is, Region.binds] at hd)
             simp only [upd, Nat.reduceEqDiff, if_true, if_false] at hK
             (try simp only [hd] at hK)
             go_simp
             (first
               | (refine hK _ _ ?_ ?_; (first | exact rfl); (repeat (first | exact Ext.refl _ | assumption | apply Ext.alloc | apply Ext.drew | apply Ext.drewN | (refine Ext.trans ?_ (by assumption))))))))
      case hV4 => (simp only [List.forall_mem_cons]; simp [stable_is])
      case fin4 =>
        intro u w2 hW2 hC2 hd
        simp only [AllV, is] at hd
        simp only [hd]
        clear hd
        clear hC2 y1 y2
        go_wp2
        go_roundw
        case rel => exact ⟨k + 1, by omega, by go_num, by (repeat (first | exact Ext.refl _ | assumption | apply Ext.alloc | apply Ext.drew | apply Ext.drewN | (refine Ext.trans ?_ (by assumption))))⟩
        case measure => simp [intOf]; omega
    · go_wp2
      go_ret
      exact ⟨rfl, hbl⟩

set_option maxRecDepth 100000 in
theorem markStringS_any (A : Option Addr) (l : List ByteArray) (c lo hi k0 : Nat) (w : World) (h : OwnV w lo hi 9 A (strs l)) (hn : l.length ≤ 1048576) (h0 : 0 < k0) (h1 : k0 ≤ 100000000) :
    Calls Try.prog 16 #[.slice A l.length c, .int .i64 k0] w fun e w' => e = .returned (.int .i64 ((k0 + l.length : Nat) : Int)) ∧ Tur lo hi w w' ∧ OwnV w' lo hi 9 A (markV k0 l.length) := by
  by_cases hz : 0 < l.length
  · obtain ⟨g, cs, rfl, g1, g2, hrest⟩ := h (by rw [strs_length]; exact hz)
    have hown : OwnVB w g 9 (strs l) := ⟨cs, hrest⟩
    clear h hrest
    go_enter Try.func16, Try.ntmps16
    go_wp2
    go_loopw [1, 5] (fun q i wr => ∃ k : Nat, k ≤ l.length ∧ i = .int .i64 k ∧ q = .int .i64 ((k0 + k : Nat) : Int) ∧ Tur lo hi w wr ∧ OwnVB wr g 9 (markV k0 k ++ (strs l).drop k)) (fun _ i _ => l.length - (intOf i).toNat)
    case atStart => exact ⟨0, Nat.zero_le _, rfl, by simp, Tur.refl _, by simpa [markV] using hown⟩
    case round =>
      obtain ⟨k, hk, rfl, rfl, hch, ho⟩ := hrel
      obtain ⟨wq, rfl⟩ : ∃ wq : World, wq = wr := ⟨_, rfl⟩
      clear hown
      by_cases hlt : k < l.length
      · have hlen : k < (markV k0 k ++ (strs l).drop k).length := by simp [markV_length, strs_length]; omega
        obtain ⟨p, hp⟩ : ∃ p : Nat, p = k0 + k := ⟨_, rfl⟩
        rw [← hp]
        have hq : (k : Int) < (l.length : Int) := by omega
        have HP := hide hp
        have hpb : p ≤ 1000000000 := by omega
        have hp0 : 0 < p := by omega
        have hstep := markV_step k0 (strs l) k (by rw [strs_length]; exact hlt)
        rw [← hp] at hstep
        have HS := hide hstep
        clear hp hstep
        go_wp2_with (go_at_call 27; refine (markText_any p _ hp0 hpb).mono ?_; rintro e w1 ⟨rfl, hb1⟩; have c1 := (ho.ext hb1).cell hlen; have c3 := (ho.ext hb1).frozen k)
        go_roundw
        case rel => exact ⟨k + 1, by omega, by go_num, by have := HP.out; go_num, (hch.ext hb1).set g1 g2 _ _, by rw [HS.out]; exact (ho.ext hb1).set hlen _⟩
        case measure => simp [intOf]; omega
      · have e : k = l.length := by omega
        have E := hide e
        clear e
        go_wp2
        go_ret
        refine ⟨by rw [E.out]; rfl, hch, fun _ => ?_⟩
        rw [E.out, ← strs_length, List.drop_length, List.append_nil, strs_length] at ho
        obtain ⟨cs', q1, q2, q3⟩ := ho
        exact ⟨g, cs', rfl, g1, g2, q1, q2, q3⟩
  · have e : l = [] := List.eq_nil_of_length_eq_zero (by omega)
    subst e
    clear h hz
    go_enter Try.func16, Try.ntmps16
    go_wp2
    go_loopw [1, 5] (fun q i wr => q = .int .i64 k0 ∧ i = .int .i64 0 ∧ w = wr) (fun _ i _ => 0)
    case atStart => exact ⟨rfl, rfl, rfl⟩
    case round =>
      obtain ⟨rfl, rfl, rfl⟩ := hrel
      go_wp2
      go_ret
      exact ⟨rfl, Tur.refl _, OwnV.nil⟩

set_option maxRecDepth 100000 in
theorem heldStringS_any (A : Option Addr) (n c k0 : Nat) (w : World) (h : RV w A (markV k0 n)) (hn : n ≤ 1048576) (h0 : 0 < k0) (h1 : k0 ≤ 100000000) :
    Calls Try.prog 17 #[.slice A n c, .int .i64 k0] w fun e w' => e = .returned (.int .i64 ((k0 + n : Nat) : Int)) ∧ Ext w w' := by
  go_enter Try.func17, Try.ntmps17
  go_wp2
  go_loopw [1, 5] (fun q i wr => ∃ k : Nat, k ≤ n ∧ i = .int .i64 k ∧ q = .int .i64 ((k0 + k : Nat) : Int) ∧ Ext w wr) (fun _ i _ => n - (intOf i).toNat)
  case atStart => exact ⟨0, Nat.zero_le _, rfl, by simp, Ext.refl w⟩
  case round =>
    obtain ⟨k, hk, rfl, rfl, hbl⟩ := hrel
    obtain ⟨wq, rfl⟩ : ∃ wq : World, wq = wr := ⟨_, rfl⟩
    by_cases hlt : k < n
    · obtain ⟨b, off, rfl, hz1, hx⟩ := (h.ext hbl) (by rw [markV_length]; omega)
      have y1 := (hx k (by rw [markV_length]; exact hlt)).trans (markV_get k0 n k hlt)
      clear hx
      obtain ⟨p, hp⟩ : ∃ p : Nat, p = k0 + k := ⟨_, rfl⟩
      rw [← hp] at y1 ⊢
      have hq : (k : Int) < (n : Int) := by omega
      have HP := hide hp
      have hpb : p ≤ 1000000000 := by omega
      have hp0 : 0 < p := by omega
      clear hp
      go_wp2
      refine wp_flow (by kernel_rfl) (by kernel_rfl) (fun u => ⟨#[_, _, _, _, _, _, _, _, _, _, _, _, u 0, u 1, u 2, u 3, u 4, u 5, u 6, _, _, _], _⟩) (fun i => List.getD [_, _, _, _, _, _, _] i undef) [is ?v5_0, is ?v5_1, is ?v5_2, is ?v5_3, is ?v5_4, is ?v5_5, is ?v5_6] (fun w' => w'.cell? ⟨b, off + k, none⟩ = some (.string (mtS p))) _ rfl ?hC5 ?hs5 ?hV5 ?fin5
      case hC5 => (intro w' hx; and_intros <;> (first | (refine (Eq.trans (hx.cells _ _ ?_) ?_) <;> first | assumption | omega | (simp; done) | (simp; omega) | (simp [go_sem, World.cell?_alloc_past, *]; done)) | (have hz := hx.size; first | omega | (simp at hz; omega))))
      case hs5 =>
        repeat' (first
          | exact FSteps.nil
          | refine FSteps.cons ?_ ?_
          | (refine FStep.off_ _ _ _ rfl rfl ?_ (fun _ => rfl) ?_; (focus (intro u w hd; simp [vOf, is, Region.binds] at hd; simp [hd])); (intro w'; exact rfl); done)
          | ((first
              | refine FStep.plain rfl ?_
              | (refine FStep.on_ _ _ _ rfl rfl ?_ ?_; (focus (intro u w hd; simp [vOf, is, Region.binds] at hd; simp [hd]))))
             intro u w hW hC hd K hK
             (try simp [vOf, is, Region.binds] at hd)
             simp only [upd, Nat.reduceEqDiff, if_true, if_false] at hK
             (try simp only [hd] at hK)
             go_simp
             (first
               | (refine hK _ _ ?_ ?_; (first | exact rfl); (repeat (first | exact Ext.refl _ | assumption | apply Ext.alloc | apply Ext.drew | apply Ext.drewN | (refine Ext.trans ?_ (by assumption)))))
               | (go_at_call 27; refine (markText_any p _ hp0 hpb).mono ?_; rintro e w1 ⟨rfl, hb⟩; (try go_simp); refine hK _ _ ?_ ?_; (first | exact rfl); (repeat (first | exact Ext.refl _ | assumption | apply Ext.alloc | apply Ext.drew | apply Ext.drewN | (refine Ext.trans ?_ (by assumption))))))))
      case hV5 => (simp only [List.forall_mem_cons]; simp [stable_is])
      case fin5 =>
        intro u w2 hW2 hC2 hd
        simp only [AllV, is] at hd
        simp only [hd]
        clear hd
        clear hC2 y1
        go_wp2
        go_roundw
        case rel => exact ⟨k + 1, by omega, by go_num, by have := HP.out; go_num, by (repeat (first | exact Ext.refl _ | assumption | apply Ext.alloc | apply Ext.drew | apply Ext.drewN | (refine Ext.trans ?_ (by assumption))))⟩
        case measure => simp [intOf]; omega
    · have e : k = n := by omega
      have E := hide e
      clear e
      go_wp2
      go_ret
      exact ⟨by rw [E.out]; rfl, hbl⟩

end Go.Proofs.Ytkdhgngpapfkdaa
