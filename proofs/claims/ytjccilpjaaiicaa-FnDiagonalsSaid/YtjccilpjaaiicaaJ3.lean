/- 15 texts joined: Ints Refl StartAt SStart DrawR SegL Stretch Turned JordA JordB JordC JordD JordE JordF JordG. -/
import Derived.Test.YtjccilpjaaiicaaJ2
import Derived.Test.YtjccilpjaaiicaaJ1
namespace Go.Proofs.Ytjccilpjaaiicaa
open Go.RowKit

def gi (l : List Int) (k : Nat) : Int := l.getD k 0
def ints (l : List Int) : List Value := l.map (Value.int .i64)

/-- The slice '.slice A l.length c' owns the numbers of l: its block lies in [lo, hi). -/
def OwnI (w : World) (lo hi : Nat) (T : TypeId) (A : Option Addr) (l : List Int) : Prop :=
  0 < l.length → ∃ g cs, A = some ⟨g, 0, none⟩ ∧ lo ≤ g ∧ g < hi ∧ w.heap[g]? = some (.cells cs T (0, 0)) ∧ l.length ≤ cs.size ∧ ∀ k, k < l.length → cs[k]? = some (.int .i64 (gi l k))

/-- The slice '.slice A l.length c' reads as l. -/
def RInts (w : World) (A : Option Addr) (l : List Int) : Prop :=
  0 < l.length → ∃ b off, A = some ⟨b, off, none⟩ ∧ b < w.heap.size ∧ ∀ k, k < l.length → w.cell? ⟨b, off + k, none⟩ = some (.int .i64 (gi l k))

section
variable {w w' : World} {lo hi lo' hi' : Nat} {T : TypeId} {A : Option Addr} {l : List Int}
theorem OwnI.ext (h : OwnI w lo hi T A l) (hx : Ext w w') : OwnI w' lo hi T A l := fun hl =>
  let ⟨g, cs, e, h1, h2, h3, h4⟩ := h hl
  have hlt : g < w.heap.size := by
    rcases Nat.lt_or_ge g w.heap.size with h5 | h5
    · exact h5
    · rw [Array.getElem?_eq_none h5] at h3; cases h3
  ⟨g, cs, e, h1, h2, (hx.below.block g hlt).trans h3, h4⟩
theorem OwnI.more (h : OwnI w lo hi T A l) (h1 : lo' ≤ lo) (h2 : hi ≤ hi') : OwnI w lo' hi' T A l := fun hl =>
  let ⟨g, cs, e, a1, a2, h3⟩ := h hl
  ⟨g, cs, e, by omega, by omega, h3⟩
theorem OwnI.nil : OwnI w lo hi T A [] := fun h => absurd h (by simp)
theorem OwnI.r (h : OwnI w lo hi T A l) : RInts w A l := fun hl => by
  obtain ⟨g, cs, e, a1, a2, h3, h4, h5⟩ := h hl
  have hlt : g < w.heap.size := by
    rcases Nat.lt_or_ge g w.heap.size with h6 | h6
    · exact h6
    · rw [Array.getElem?_eq_none h6] at h3; cases h3
  exact ⟨g, 0, e, hlt, fun k hk => by simp [World.cell?, h3, h5 k hk]⟩
theorem OwnI.chg (h : OwnI w lo' hi' T A l) (hc : Chg lo hi w w') (hd : hi' ≤ lo ∨ hi ≤ lo') : OwnI w' lo' hi' T A l := fun hl =>
  let ⟨g, cs, e, a1, a2, h3, h4⟩ := h hl
  ⟨g, cs, e, a1, a2, (hc.block g (by omega)).trans h3, h4⟩
theorem RInts.ext (h : RInts w A l) (hx : Ext w w') : RInts w' A l := fun hl =>
  let ⟨b, off, e, h1, h2⟩ := h hl
  ⟨b, off, e, Nat.lt_of_lt_of_le h1 hx.size, fun k hk => (hx.cells _ _ h1).trans (h2 k hk)⟩
theorem RInts.nil : RInts w A [] := fun h => absurd h (by simp)
theorem RInts.at_ (h : RInts w A l) {k : Nat} (hk : k < l.length) : ∃ b off, A = some ⟨b, off, none⟩ ∧ b < w.heap.size ∧ w.cell? ⟨b, off + k, none⟩ = some (.int .i64 (gi l k)) :=
  let ⟨b, off, e, h1, h2⟩ := h (by omega)
  ⟨b, off, e, h1, h2 k hk⟩
end

theorem ints_length (l : List Int) : (ints l).length = l.length := by simp [ints]
theorem ints_get (l : List Int) (k : Nat) (h : k < l.length) : (ints l)[k]? = some (.int .i64 (gi l k)) := by
  simp [ints, gi, List.getD_eq_getElem?_getD, h]

theorem OwnI.of_own {w : World} {base T : Nat} {A : Option Addr} {n c : Nat} {l : List Int} (h : w.ownsRow base T 1 (.slice A n c) n (ints l)) : n = l.length ∧ OwnI w base w.heap.size T A l := by
  have h1 : n = l.length := by have := h.1; rw [ints_length] at this; omega
  refine ⟨h1, fun hl => ?_⟩
  rcases h.2 with ⟨_, h2⟩ | ⟨g, cap, cur, hv, hb, hh, hcap, _, hsz, htake⟩
  · omega
  · injection hv with hA _ hc
    subst hA hc
    have hlt : g < w.heap.size := by
      rcases Nat.lt_or_ge g w.heap.size with h2 | h2
      · exact h2
      · rw [Array.getElem?_eq_none h2] at hh; cases hh
    refine ⟨g, cur, rfl, hb, hlt, hh, by omega, fun k hk => ?_⟩
    have := ints_get l k hk
    rw [← htake, List.getElem?_take, if_pos (by omega)] at this
    simpa using this

theorem OwnS.of_own {w : World} {base T : Nat} {A : Option Addr} {n c : Nat} {l : List (Int × Int)} (h : w.ownsRow base T 2 (.slice A n c) n (flat l)) : n = l.length ∧ OwnS w base w.heap.size T A l := by
  have h1 : n = l.length := by have := h.1; rw [flat_length] at this; omega
  refine ⟨h1, fun hl => ?_⟩
  rcases h.2 with ⟨_, h2⟩ | ⟨g, cap, cur, hv, hb, hh, hcap, _, hsz, htake⟩
  · omega
  · injection hv with hA _ hc
    subst hA hc
    have hlt : g < w.heap.size := by
      rcases Nat.lt_or_ge g w.heap.size with h2 | h2
      · exact h2
      · rw [Array.getElem?_eq_none h2] at hh; cases hh
    refine ⟨g, rfl, hb, hlt, cur, hh, by omega, fun k hk => ?_⟩
    obtain ⟨p1, p2⟩ := flat_get l k hk
    rw [← htake, List.getElem?_take, if_pos (by omega)] at p1 p2
    exact ⟨by simpa using p1, by simpa using p2⟩

/-- a call that returns a new slice of the numbers x -/
def RetI (T : TypeId) (x : List Int) (w : World) (e : Ending) (w' : World) : Prop := ∃ A' c', e = .returned (.slice A' x.length c') ∧ OwnI w' w.heap.size w'.heap.size T A' x ∧ Ext w w'

/-- a call that returns a new slice of the points x -/
def RetP (T : TypeId) (x : List (Int × Int)) (w : World) (e : Ending) (w' : World) : Prop := ∃ A' c', e = .returned (.slice A' x.length c') ∧ OwnS w' w.heap.size w'.heap.size T A' x ∧ Ext w w'

/-- what an append to a row of the call's own leaves is a slice -/
theorem ownsRow_slice {w : World} {base e size n : Nat} {v : Value} {xs : List Value} (h : w.ownsRow base e size v n xs) : ∃ A c, v = .slice A n c := by
  rcases h.2 with ⟨rfl, rfl⟩ | ⟨g, cap, cur, rfl, _⟩
  · exact ⟨_, _, rfl⟩
  · exact ⟨_, _, rfl⟩

def markI (k0 : Int) (n : Nat) : List Int := (List.range n).map fun (i : Nat) => k0 + (i : Int)
theorem markI_length (k0 : Int) (n : Nat) : (markI k0 n).length = n := by simp [markI]
theorem gi_markI (k0 : Int) (n k : Nat) (h : k < n) : gi (markI k0 n) k = k0 + (k : Int) := by simp [gi, markI, List.getD_eq_getElem?_getD, h]

theorem gi_set (l : List Int) (k j : Nat) (x : Int) (hk : k < l.length) : gi (l.set k x) j = if j = k then x else gi l j := by
  unfold gi
  simp only [List.getD_eq_getElem?_getD, List.getElem?_set]
  by_cases e : k = j
  · subst e; simp [hk]
  · rw [if_neg e, if_neg (fun h => e h.symm)]

theorem markI_step (k0 : Int) (l : List Int) (k : Nat) (h : k < l.length) : markI k0 (k + 1) ++ l.drop (k + 1) = (markI k0 k ++ l.drop k).set k (k0 + (k : Int)) := by
  have e : (markI k0 k).length = k := markI_length k0 k
  rw [List.set_append_right _ _ (by omega), e, Nat.sub_self, List.drop_eq_getElem_cons h, List.set_cons_zero]
  unfold markI
  rw [List.range_succ, List.map_append, List.append_assoc]
  rfl

/-- block g, row of numbers -/
def OwnIB (w : World) (g : Nat) (T : TypeId) (l : List Int) : Prop :=
  ∃ cs : Array Value, w.heap[g]? = some (.cells cs T (0, 0)) ∧ l.length ≤ cs.size ∧ ∀ k, k < l.length → cs[k]? = some (.int .i64 (gi l k))
theorem OwnIB.cell {w : World} {g : Nat} {T : TypeId} {l : List Int} (h : OwnIB w g T l) {k : Nat} (hk : k < l.length) : w.cell? ⟨g, k, none⟩ = some (.int .i64 (gi l k)) := by
  obtain ⟨cs, h1, _, h3⟩ := h
  simp [World.cell?, h1, h3 k hk]
theorem OwnIB.frozen {w : World} {g : Nat} {T : TypeId} {l : List Int} (h : OwnIB w g T l) (o : Nat) : w.frozen? ⟨g, o, none⟩ = false := by
  obtain ⟨cs, h1, _⟩ := h
  simp [World.frozen?, h1]
theorem OwnIB.set {w : World} {g : Nat} {T : TypeId} {l : List Int} (h : OwnIB w g T l) {k : Nat} (hk : k < l.length) (x : Int) : OwnIB (w.setCell ⟨g, k, none⟩ (.int .i64 x)) g T (l.set k x) := by
  obtain ⟨cs, h1, h2, h3⟩ := h
  refine ⟨cs.setIfInBounds k (.int .i64 x), by simp [World.setCell, Array.getElem?_modify, h1], by simpa using h2, fun j hj => ?_⟩
  rw [List.length_set] at hj
  rw [gi_set l k j _ hk, Array.getElem?_setIfInBounds]
  by_cases e : j = k
  · subst e; rw [if_pos rfl, if_pos (by omega), if_pos rfl]
  · rw [if_neg (by omega), if_neg e]; exact h3 j hj

end Go.Proofs.Ytjccilpjaaiicaa

namespace Go.Proofs.Ytjccilpjaaiicaa
open Go.RowKit

theorem info_int : (Try.prog.info? 3).map (fun i => (i.zero, i.size, i.bytes)) = some (some (.int .i64 0), 1, 8) := by kernel_rfl

/-- a new block's cells, as what an append takes -/
theorem news_alloc (w : World) (cs : List Value) (T : TypeId) : ∀ j u, cs[j]? = some u → (w.alloc (.cells cs.toArray T)).cell? ((⟨w.heap.size, 0, none⟩ : Addr).add j) = some u :=
  SLn.addr (fun j u hu => by
    have := heap_alloc_new w (.cells cs.toArray T)
    unfold World.cell?
    simp only [this]
    simpa using hu)

/-- the corners below k that are reflex -/
def reflL (l : List (Int × Int)) (k : Nat) : List Int := ((List.range k).filter (reflB l)).map fun (i : Nat) => (i : Int)
theorem reflL_succ (l : List (Int × Int)) (k : Nat) : reflL l (k + 1) = if reflB l k = true then reflL l k ++ [(k : Int)] else reflL l k := by
  unfold reflL
  rw [List.range_succ, List.filter_append, List.map_append]
  cases h : reflB l k <;> simp [h]
theorem reflL_le (l : List (Int × Int)) (k : Nat) : (reflL l k).length ≤ k := by
  unfold reflL
  rw [List.length_map]
  have := List.length_filter_le (reflB l) (List.range k)
  rwa [List.length_range] at this
/-- ReflexCorners, as both texts give it -/
def reflV (l : List (Int × Int)) : List Int := if roomB l = true then reflL l l.length else []
theorem reflV_le (l : List (Int × Int)) : (reflV l).length ≤ l.length := by
  unfold reflV
  split
  · exact reflL_le l _
  · simp

theorem ints_append (a b : List Int) : ints (a ++ b) = ints a ++ ints b := by simp [ints]

set_option maxRecDepth 100000 in
set_option maxHeartbeats 800000 in
theorem ReflexCorners_any (A : Option Addr) (l : List (Int × Int)) (c : Nat) (w : World) (hp : RPts w A l) (hn : l.length ≤ 1048576) :
    Calls Try.prog 25 #[.agg #[.slice A l.length c]] w (RetI 3 (reflV l) w) := by
  obtain ⟨i0, hI, hZ, hS, hY⟩ := info_parts info_int
  have HB : Hid (∀ w', Ext (w.alloc (.cells #[.slice A l.length c] 26)) w' → w'.cell? ⟨w.heap.size, 0, none⟩ = some (.slice A l.length c) ∧ w.heap.size < w'.heap.size) := fun w' hx => by
    and_intros <;> (first | (have hz := hx.size; simp at hz; omega) | ((first | rw [hx.cells _ _ (by first | (simp; done) | (simp; omega))] | rw [hx.frozens _ _ (by first | (simp; done) | (simp; omega))]); (first | (simp [go_sem]; done) | (simp [go_sem, World.cell?_alloc_past]; done) | (simp [go_sem, World.frozen?]; done))))
  cases hr : roomB l
  · have HV := hide (show reflV l = [] by simp [reflV, hr])
    go_enter Try.func25, Try.ntmps25
    go_wp2_with ((go_at_call 17; refine (RoomOk_any _ _ _ _ (hp.ext (by (repeat (first | exact Ext.refl _ | assumption | apply Ext.alloc | apply Ext.drew | apply Ext.drewN | (refine Ext.trans ?_ (by assumption)))))) hn).mono ?_; rintro e w1 ⟨rfl, hb⟩; have hcc := HB.out w1 (by (repeat (first | exact Ext.refl _ | assumption | apply Ext.alloc | apply Ext.drew | apply Ext.drewN | (refine Ext.trans ?_ (by assumption)))))))
    go_ret
    exact ⟨none, 0, by rw [HV.out]; rfl, by rw [HV.out]; exact OwnI.nil, by (repeat (first | exact Ext.refl _ | assumption | apply Ext.alloc | apply Ext.drew | apply Ext.drewN | (refine Ext.trans ?_ (by assumption))))⟩
  · have HV := hide (show reflV l = reflL l l.length by simp [reflV, hr])
    go_enter Try.func25, Try.ntmps25
    go_wp2_with (go_at_call 17; refine (RoomOk_any _ _ _ _ (hp.ext (by (repeat (first | exact Ext.refl _ | assumption | apply Ext.alloc | apply Ext.drew | apply Ext.drewN | (refine Ext.trans ?_ (by assumption)))))) hn).mono ?_; rintro e wa ⟨rfl, hb⟩; have hcc := HB.out wa (by (repeat (first | exact Ext.refl _ | assumption | apply Ext.alloc | apply Ext.drew | apply Ext.drewN | (refine Ext.trans ?_ (by assumption))))))
    have hxa : Ext w (wa.alloc (.cells #[] 3)) := by (repeat (first | exact Ext.refl _ | assumption | apply Ext.alloc | apply Ext.drew | apply Ext.drewN | (refine Ext.trans ?_ (by assumption))))
    clear hcc
    go_loopw [3, 12] (fun out i wr => ∃ (k : Nat) (o : Value), k ≤ l.length ∧ i = .int .i64 k ∧ o = out ∧ Ext (w.alloc (.cells #[.slice A l.length c] 26)) wr ∧ wr.ownsRow (w.heap.size + 1) 3 1 o (reflL l k).length (ints (reflL l k))) (fun _ i _ => l.length - (intOf i).toNat)
    case atStart => exact ⟨0, _, Nat.zero_le _, rfl, rfl, by (repeat (first | exact Ext.refl _ | assumption | apply Ext.alloc | apply Ext.drew | apply Ext.drewN | (refine Ext.trans ?_ (by assumption)))), rfl, .inr ⟨wa.heap.size, 0, #[], rfl, by have := hb.size; simpa using this, heap_alloc_new wa _, Nat.le_refl _, by unfold maxLen; omega, rfl, rfl⟩⟩
    case round =>
      obtain ⟨k, o, hk, rfl, ho, hbl, hown⟩ := hrel; subst ho
      obtain ⟨wq, rfl⟩ : ∃ wq : World, wq = wr := ⟨_, rfl⟩
      have hcb := HB.out wq hbl
      by_cases hlt : k < l.length
      · have hle := reflL_le l k
        cases hbk : reflB l k
        · have HS := hide (show reflL l (k + 1) = reflL l k by rw [reflL_succ, hbk]; rfl)
          go_wp2_with (go_at_call 46; refine (reflex_any _ _ _ _ _ (hp.ext (by (repeat (first | exact Ext.refl _ | assumption | apply Ext.alloc | apply Ext.drew | apply Ext.drewN | (refine Ext.trans ?_ (by assumption)))))) hn hlt).mono ?_; rintro e w1 ⟨rfl, hb1⟩)
          go_roundw
          case rel => exact ⟨k + 1, _, by omega, by go_num, rfl, by (repeat (first | exact Ext.refl _ | assumption | apply Ext.alloc | apply Ext.drew | apply Ext.drewN | (refine Ext.trans ?_ (by assumption)))), by rw [HS.out]; exact ownsRow_ext hown (by (repeat (first | exact Ext.refl _ | assumption | apply Ext.alloc | apply Ext.drew | apply Ext.drewN | (refine Ext.trans ?_ (by assumption)))))⟩
          case measure => simp [intOf]; omega
        · have HS := hide (show reflL l (k + 1) = reflL l k ++ [(k : Int)] by rw [reflL_succ, hbk]; rfl)
          go_wp2_with (first | (go_at_call 46; refine (reflex_any _ _ _ _ _ (hp.ext (by (repeat (first | exact Ext.refl _ | assumption | apply Ext.alloc | apply Ext.drew | apply Ext.drewN | (refine Ext.trans ?_ (by assumption)))))) hn hlt).mono ?_; rintro e w1 ⟨rfl, hb1⟩; have hsz1 := (show Ext (w.alloc (.cells #[.slice A l.length c] 26)) w1 by (repeat (first | exact Ext.refl _ | assumption | apply Ext.alloc | apply Ext.drew | apply Ext.drewN | (refine Ext.trans ?_ (by assumption))))).size; (simp at hsz1)) | (at_builtin; refine wpList_app _ rfl (.tmp 18) (.tmp 20) _ rfl (w.heap.size + 1) 3 i0 _ 1 8 Try.underlying33 hI hZ hS hY rfl (by omega) _ _ (ints (reflL l k)) (by rfl) (ownsRow_ext hown (by (repeat (first | exact Ext.refl _ | assumption | apply Ext.alloc | apply Ext.drew | apply Ext.drewN | (refine Ext.trans ?_ (by assumption)))))) ⟨w1.heap.size, 0, none⟩ 1 1 [.int .i64 (k : Int)] (by rfl) rfl (news_alloc w1 [.int .i64 (k : Int)] 3) (by simp [Value.oneCell']) (by unfold maxLen; omega) (by omega) (by simp; omega) ?_; intro v' w3 hown3 hg3 _))
          have hx3 : Ext (w.alloc (.cells #[.slice A l.length c] 26)) w3 := ext_grown (show Ext (w.alloc (.cells #[.slice A l.length c] 26)) (w1.alloc (.cells #[.int .i64 (k : Int)] 3)) by (repeat (first | exact Ext.refl _ | assumption | apply Ext.alloc | apply Ext.drew | apply Ext.drewN | (refine Ext.trans ?_ (by assumption))))) hg3 (fun q hq => by have := ((ownsRow_ext hown (show Ext wq (w1.alloc (.cells #[.int .i64 (k : Int)] 3)) by (repeat (first | exact Ext.refl _ | assumption | apply Ext.alloc | apply Ext.drew | apply Ext.drewN | (refine Ext.trans ?_ (by assumption)))))).lt q hq).1; simpa using this)
          clear hown hg3
          go_wp2
          go_roundw
          case rel => exact ⟨k + 1, _, by omega, by go_num, rfl, hx3, by rw [HS.out, ints_append, List.length_append]; exact hown3⟩
          case measure => simp [intOf]; omega
      · have e : k = l.length := by omega
        have E := hide e
        clear e
        obtain ⟨A', c', rfl⟩ := ownsRow_slice hown
        go_wp2
        go_ret
        rw [E.out] at hown
        exact ⟨A', c', by rw [HV.out, E.out]; rfl, by rw [HV.out]; exact (OwnI.of_own hown).2.more (by omega) (Nat.le_refl _), by (repeat (first | exact Ext.refl _ | assumption | apply Ext.alloc | apply Ext.drew | apply Ext.drewN | (refine Ext.trans ?_ (by assumption))))⟩

end Go.Proofs.Ytjccilpjaaiicaa

namespace Go.Proofs.Ytjccilpjaaiicaa
open Go.RowKit

/-- a room begun at corner k -/
def startL (l : List (Int × Int)) (k : Nat) : List (Int × Int) := l.drop k ++ l.take k
theorem startL_length (l : List (Int × Int)) (k : Nat) : (startL l k).length = l.length := by
  unfold startL
  rw [List.length_append, List.length_drop, List.length_take]
  omega
/-- StartAt's corners, as both texts give them -/
def startV (l : List (Int × Int)) (k : Int) : List (Int × Int) := if hasC l k = true then startL l k.toNat else []

section
variable {P : Program} (w : World)
/-- an append to an empty row that is not nil -/
theorem oper_app_empty {o : Oper} {a : Act} {K : Act → World → Prop} {Q : Exit → Act → World → Prop} (s x : Operand) (t : TypeId)
    (ho : o.op = .call { callee := .builtin .append, args := #[s, x], argTypes := #[t, t] })
    (e : Nat) (i : TypeInfo) (z : Value) (size bytes : Nat) (ht : P.underlying t = some (.slice e)) (hi : P.info? e = some i) (hz : i.zero = some z)
    (hsize : i.size = size) (hby : i.bytes = bytes) (hzs : z.cells.size = size) (hsz : 0 < size)
    (b : Addr) (hs : a.eval s = .slice (some b) 0 0)
    (ad : Addr) (m c : Nat) (news : List Value) (hx : a.eval x = .slice (some ad) m c) (hl : news.length = m * size) (hnews : ∀ j u, news[j]? = some u → w.cell? (ad.add j) = some u)
    (h0 : 0 < m) (h63 : m ≤ maxLen) (hbytes : m * bytes ≤ 140737488355328)
    (h : ∀ v' w', w'.ownsRow w.heap.size e size v' m news → Ext w w' → K (a.put o.dst v') w') : o.wp P a w K Q := by
  subst hsize
  subst hby
  have hsmall : m ≤ 9223372036854775807 := by simp only [maxLen] at h63; omega
  have hn0 : Builtin.nextslicecap (0 + m) 0 = m := by rw [Nat.zero_add]; exact nextslicecap_zero h0
  have hr := run_append_grow (P := P) w t o.type e i z ht hi hz b 0 0 [] (by simp) (fun j v hv => by simp at hv) ad m c news hl hnews (by omega) (by omega) (by rw [hn0]; omega)
  unfold Oper.wp execOp
  simp only [ho, resolve, invoke, builtin, Sem.run_bind, Sem.run_pure, Result.andThen_ok, List.map_toArray, List.map_cons, List.map_nil, hs, hx, hr]
  refine h _ _ ⟨hl, .inr ⟨w.heap.size, _, _, by rw [Nat.zero_add], Nat.le_refl _, heap_alloc_new w.drew _, by have := grownCap_ge w (0 + m) 0 e; omega, grownCap_le_maxLen w (0 + m) 0 e (by omega), ?_, ?_⟩⟩ (((Ext.refl w).drew).alloc _)
  · have := grownCap_ge w (0 + m) 0 e
    simp only [Array.size_append, List.size_toArray, size_zeroCells, hzs, hl, List.length_nil, Nat.zero_add]
    rw [Nat.zero_add] at this
    rw [← Nat.add_mul]
    congr 1
    omega
  · simp only [Array.toList_append, List.nil_append]
    rw [← hl]
    exact List.take_left
end

theorem seg_drop {w : World} {b off : Nat} {l : List (Int × Int)} (h : RPts w (some ⟨b, off, none⟩) l) (m : Nat) : ∀ j u, (flat (l.drop m))[j]? = some u → w.cell? ((⟨b, off + m * 2, none⟩ : Addr).add j) = some u := by
  intro j u hu
  obtain ⟨q, hq, h2⟩ := flat_at _ j u hu
  rw [List.length_drop] at hq
  obtain ⟨_, hx, hy⟩ := h.cell (show m + q < l.length by omega)
  have e1 : gx (l.drop m) q = gx l (m + q) := by unfold gx; simp
  have e2 : gy (l.drop m) q = gy l (m + q) := by unfold gy; simp
  rcases h2 with ⟨rfl, rfl⟩ | ⟨rfl, rfl⟩
  · rw [e1, ← hx, show ((⟨b, off + m * 2, none⟩ : Addr).add (q * 2)) = ⟨b, off + (m + q) * 2, none⟩ by simp [Addr.add, Nat.add_mul, Nat.add_assoc]]
  · rw [e2, ← hy, show ((⟨b, off + m * 2, none⟩ : Addr).add (q * 2 + 1)) = ⟨b, off + (m + q) * 2 + 1, none⟩ by simp [Addr.add, Nat.add_mul, Nat.add_assoc]]
theorem seg_take {w : World} {b off : Nat} {l : List (Int × Int)} (h : RPts w (some ⟨b, off, none⟩) l) (m : Nat) : ∀ j u, (flat (l.take m))[j]? = some u → w.cell? ((⟨b, off, none⟩ : Addr).add j) = some u := by
  intro j u hu
  obtain ⟨q, hq, h2⟩ := flat_at _ j u hu
  rw [List.length_take] at hq
  obtain ⟨_, hx, hy⟩ := h.cell (show q < l.length by omega)
  have e1 : gx (l.take m) q = gx l q := by unfold gx; simp only [List.getD_eq_getElem?_getD, List.getElem?_take]; rw [if_pos (by omega)]
  have e2 : gy (l.take m) q = gy l q := by unfold gy; simp only [List.getD_eq_getElem?_getD, List.getElem?_take]; rw [if_pos (by omega)]
  rcases h2 with ⟨rfl, rfl⟩ | ⟨rfl, rfl⟩
  · rw [e1, ← hx, show ((⟨b, off, none⟩ : Addr).add (q * 2)) = ⟨b, off + q * 2, none⟩ by simp [Addr.add]]
  · rw [e2, ← hy, show ((⟨b, off, none⟩ : Addr).add (q * 2 + 1)) = ⟨b, off + q * 2 + 1, none⟩ by simp [Addr.add]; omega]

theorem ownsRow_mono {w : World} {base base' e size n : Nat} {v : Value} {xs : List Value} (h : w.ownsRow base e size v n xs) (hb : base' ≤ base) : w.ownsRow base' e size v n xs := by
  obtain ⟨h1, h2⟩ := h
  refine ⟨h1, ?_⟩
  rcases h2 with h2 | ⟨g, cap, cur, hv, hg, h3⟩
  · exact .inl h2
  · exact .inr ⟨g, cap, cur, hv, by omega, h3⟩

theorem flat_one (l : List (Int × Int)) : ∀ u ∈ flat l, u.oneCell' = true := by
  intro u hu
  simp only [flat, List.mem_flatMap] at hu
  obtain ⟨p, _, hp⟩ := hu
  simp only [List.mem_cons, List.not_mem_nil, or_false] at hp
  rcases hp with rfl | rfl <;> rfl

/-- an empty row that is not nil -/
def Emp (v : Value) (_ : World) : Prop := ∃ b, v = .slice (some b) 0 0
theorem Emp_stable : Stable Emp := fun _ _ _ h _ => h
theorem Emp_mk (b : Addr) (w : World) : Emp (.slice (some b) 0 0) w := ⟨b, rfl⟩
/-- a row of the call's own with these cells -/
def AppR (base : Nat) (T : TypeId) (n : Nat) (xs : List Value) (v : Value) (w : World) : Prop := w.ownsRow base T 2 v n xs
theorem AppR_stable (base : Nat) (T : TypeId) (n : Nat) (xs : List Value) : Stable (AppR base T n xs) := fun _ _ _ h hx => ownsRow_ext h hx

def RetR (T : TypeId) (x : List (Int × Int)) (w : World) (e : Ending) (w' : World) : Prop := ∃ A' c', e = .returned (.agg #[.slice A' x.length c']) ∧ OwnS w' w.heap.size w'.heap.size T A' x ∧ Ext w w'

end Go.Proofs.Ytjccilpjaaiicaa

namespace Go.Proofs.Ytjccilpjaaiicaa
open Go.RowKit

/-- the first k corners from corner m on -/
def rotL (l : List (Int × Int)) (m k : Nat) : List (Int × Int) := (List.range k).map fun j => l.getD ((m + j) % l.length) (0, 0)
theorem rotL_succ (l : List (Int × Int)) (m k : Nat) : rotL l m (k + 1) = rotL l m k ++ [l.getD ((m + k) % l.length) (0, 0)] := by
  unfold rotL
  rw [List.range_succ, List.map_append]
  rfl
theorem rotL_length (l : List (Int × Int)) (m k : Nat) : (rotL l m k).length = k := by simp [rotL]
theorem rotL_full {l : List (Int × Int)} {m : Nat} (hm : m < l.length) : rotL l m l.length = startL l m := by
  apply List.ext_getElem
  · rw [rotL_length, startL_length]
  · intro j h1 h2
    rw [rotL_length] at h1
    simp only [rotL, List.getElem_map, List.getElem_range, startL, List.getElem_append, List.length_drop]
    split
    · rw [Nat.mod_eq_of_lt (by omega), List.getElem_drop]
      simp [List.getD_eq_getElem?_getD, List.getElem?_eq_getElem (show m + j < l.length by omega)]
    · rw [Nat.mod_eq_sub_mod (by omega), Nat.mod_eq_of_lt (by omega), List.getElem_take]
      have e : m + j - l.length = j - (l.length - m) := by omega
      rw [e]
      simp [List.getD_eq_getElem?_getD, List.getElem?_eq_getElem (show j - (l.length - m) < l.length by omega)]

def OneC (w : World) (b : Nat) (T : TypeId) (v : Value) : Prop := w.heap[b]? = some (.cells #[v] T (0, 0))
theorem OneC.ext {w w' : World} {b : Nat} {T : TypeId} {v : Value} (h : OneC w b T v) (hx : Ext w w') : OneC w' b T v := (hx.below.block b (heap_lt h)).trans h
theorem OneC.cell {w : World} {b : Nat} {T : TypeId} {v : Value} (h : OneC w b T v) : b < w.heap.size ∧ w.cell? ⟨b, 0, none⟩ = some v ∧ w.frozen? ⟨b, 0, none⟩ = false := ⟨heap_lt h, by rw [blk_cell h]; rfl, blk_free h 0⟩
theorem OneC.set {w : World} {b : Nat} {T : TypeId} {v : Value} (h : OneC w b T v) (u : Value) : OneC (w.setCell ⟨b, 0, none⟩ u) b T u := by
  unfold OneC at *
  simp [World.setCell, Array.getElem?_modify, h]
theorem OneC.new (w : World) (T : TypeId) (v : Value) : OneC (w.alloc (.cells #[v] T)) w.heap.size T v := heap_alloc_new w _

theorem ownsRow_set {w : World} {base e size n : Nat} {v : Value} {xs : List Value} (h : w.ownsRow base e size v n xs) {p : Addr} (hp : p.block < base) (u : Value) : (w.setCell p u).ownsRow base e size v n xs := by
  obtain ⟨h1, h2⟩ := h
  refine ⟨h1, ?_⟩
  rcases h2 with h2 | ⟨g, cap, cur, hv, hg, hh, h3⟩
  · exact .inl h2
  · exact .inr ⟨g, cap, cur, hv, hg, (Below.heap_setCell _ _ _ _ (by omega)).trans hh, h3⟩
theorem OneC.grown {w w' : World} {b : Nat} {T : TypeId} {v : Value} {row : Option Nat} (h : OneC w b T v) (hg : w.grownBy w' row) (hr : row ≠ some b) : OneC w' b T v := (hg.block b (heap_lt h) (fun e => hr e.symm)).trans h

end Go.Proofs.Ytjccilpjaaiicaa

namespace Go.Proofs.Ytjccilpjaaiicaa
open Go.RowKit

/-- the shapes -/
def shp : Nat → List (Int × Int)
  | 0 => [(0, 0), (4, 0), (4, 4), (0, 4)]
  | 1 => [(0, 0), (5, 0), (2, 4)]
  | 2 => [(0, 0), (6, 0), (6, 2), (2, 2), (2, 6), (0, 6)]
  | 3 => [(0, 0), (8, 0), (8, 6), (4, 2), (0, 6)]
  | 4 => [(0, 0), (10, 0), (10, 5), (8, 1), (5, 5), (2, 1), (0, 5)]
  | 5 => [(0, 0), (7, 0), (7, 7), (1, 7), (1, 3), (3, 3), (3, 5), (5, 5), (5, 2), (0, 2)]
  | 6 => [(0, 0), (4, 2), (8, 0), (5, 3), (4, 7), (3, 3)]
  | _ => [(0, 0), (6, 1), (7, 4), (3, 6), (1, 3)]

/-- a corner moved -/
def mvd (l : List (Int × Int)) (i : Nat) (dx dy : Int) : List (Int × Int) := l.set i (gx l i + dx, gy l i + dy)
/-- the rooms that the first loop may hold after j rounds -/
inductive Reach (s : Nat) : Nat → List (Int × Int) → Prop
  | base : Reach s 0 (shp s)
  | stay {j l} : Reach s j l → Reach s (j + 1) l
  | move {j l i dx dy} : Reach s j l → i < l.length → (-1 ≤ dx ∧ dx ≤ 1) → (-1 ≤ dy ∧ dy ≤ 1) → roomB (mvd l i dx dy) = true → Reach s (j + 1) (mvd l i dx dy)
/-- a point turned and moved -/
def trn (t : Nat) (dx : Int) (p : Int × Int) : Int × Int := if t = 1 then (-p.2 + dx, p.1) else if t = 2 then (-p.1 + dx, -p.2) else (p.1 + dx, p.2)
/-- the rooms that may be drawn -/
def Drawn (L : List (Int × Int)) : Prop := ∃ (s j t m : Nat) (l : List (Int × Int)) (dx : Int), s < 8 ∧ j ≤ 3 ∧ Reach s j l ∧ t < 4 ∧ m < l.length ∧ (-2 ≤ dx ∧ dx ≤ 2) ∧ L = (startL l m).map (trn t dx)

theorem mvd_length (l : List (Int × Int)) (i : Nat) (dx dy : Int) : (mvd l i dx dy).length = l.length := by simp [mvd]
theorem shp_length (s : Nat) : 3 ≤ (shp s).length ∧ (shp s).length ≤ 10 := by
  match s with
  | 0 | 1 | 2 | 3 | 4 | 5 | 6 => decide
  | n + 7 => exact (by decide : 3 ≤ (shp 7).length ∧ (shp 7).length ≤ 10)
theorem Reach.len {s j : Nat} {l : List (Int × Int)} (h : Reach s j l) : l.length = (shp s).length := by
  induction h with
  | base => rfl
  | stay _ ih => exact ih
  | move _ _ _ _ _ ih => rw [mvd_length]; exact ih
theorem g_mem' {l : List (Int × Int)} {k : Nat} (hk : k < l.length) : (gx l k, gy l k) ∈ l := by
  have e : (gx l k, gy l k) = l.getD k (0, 0) := rfl
  rw [e, List.getD_eq_getElem?_getD, List.getElem?_eq_getElem hk]
  exact List.getElem_mem hk
theorem mem_mvd {l : List (Int × Int)} {i : Nat} {dx dy : Int} {p : Int × Int} (hi : i < l.length) (h : p ∈ mvd l i dx dy) : p ∈ l ∨ ∃ q, q ∈ l ∧ p = (q.1 + dx, q.2 + dy) := by
  unfold mvd at h
  rcases List.mem_or_eq_of_mem_set h with h | h
  · exact .inl h
  · exact .inr ⟨(gx l i, gy l i), g_mem' hi, h⟩
/-- how far the corners go -/
theorem Reach.bd {s j : Nat} {l : List (Int × Int)} (h : Reach s j l) : ∀ p, p ∈ l → (-(j : Int) ≤ p.1 ∧ p.1 ≤ 10 + j) ∧ (-(j : Int) ≤ p.2 ∧ p.2 ≤ 10 + j) := by
  induction h with
  | base =>
    have hs : ∀ s, ((shp s).all fun p => decide (0 ≤ p.1) && (decide (p.1 ≤ 10) && (decide (0 ≤ p.2) && decide (p.2 ≤ 10)))) = true := by
      intro s
      match s with
      | 0 | 1 | 2 | 3 | 4 | 5 | 6 => decide
      | n + 7 => exact (by decide : ((shp 7).all fun p => decide (0 ≤ p.1) && (decide (p.1 ≤ 10) && (decide (0 ≤ p.2) && decide (p.2 ≤ 10)))) = true)
    intro p hp
    have := List.all_eq_true.1 (hs s) p hp
    simp only [Bool.and_eq_true, decide_eq_true_eq] at this
    omega
  | stay _ ih => intro p hp; have := ih p hp; omega
  | move _ hi h1 h2 _ ih =>
    intro p hp
    rcases mem_mvd hi hp with h | ⟨q, hq, rfl⟩
    · have := ih p h; omega
    · have := ih q hq
      simp only
      omega

theorem ownS_lit (w : World) (l : List (Int × Int)) (T : TypeId) : OwnS (w.alloc (.cells (flat l).toArray T)) w.heap.size (w.heap.size + 1) T (some ⟨w.heap.size, 0, none⟩) l := fun _ =>
  ⟨w.heap.size, rfl, Nat.le_refl _, Nat.lt_succ_self _, (flat l).toArray, heap_alloc_new w _, by simp [flat_length], fun k hk => by
    obtain ⟨h1, h2⟩ := flat_get l k hk
    exact ⟨by simpa using h1, by simpa using h2⟩⟩

/-- a call that returns a new room with these corners -/
def RetQ (x : List (Int × Int)) (w : World) (e : Ending) (w' : World) : Prop := ∃ A' c', e = .returned (.agg #[.slice A' x.length c']) ∧ x.length ≤ c' ∧ OwnS w' w.heap.size w'.heap.size 28 A' x ∧ Ext w w'

theorem shape_own (w : World) (l : List (Int × Int)) (n : Nat) : OwnS ((w.alloc (.cells #[.slice (some ⟨w.heap.size + 1, 0, none⟩) n n] 26)).alloc (.cells (flat l).toArray 28)) w.heap.size ((w.alloc (.cells #[.slice (some ⟨w.heap.size + 1, 0, none⟩) n n] 26)).alloc (.cells (flat l).toArray 28)).heap.size 28 (some ⟨w.heap.size + 1, 0, none⟩) l := by
  have h := ownS_lit (w.alloc (.cells #[.slice (some ⟨w.heap.size + 1, 0, none⟩) n n] 26)) l 28
  have e : (w.alloc (.cells #[.slice (some ⟨w.heap.size + 1, 0, none⟩) n n] 26)).heap.size = w.heap.size + 1 := by simp
  rw [e] at h
  exact h.more (by omega) (by simp)


set_option maxRecDepth 100000 in
set_option maxHeartbeats 6400000 in
theorem l04Shape_any (k : Nat) (hk : k < 8) (w : World) : Calls Try.prog 36 #[.int .i64 k] w (RetQ (shp k) w) := by
  match k, hk with
  | 0, _ =>
    go_enter Try.func36, Try.ntmps36
    go_wp2
    exact bodyPost_ret (v := .agg #[.slice (some ⟨w.heap.size + 1, 0, none⟩) 4 4]) (by simp [results, Try.results36, go_sem, World.cell?_alloc_past]) rfl ⟨_, _, rfl, by decide, shape_own w (shp 0) 4, by (repeat (first | exact Ext.refl _ | assumption | apply Ext.alloc | apply Ext.drew | apply Ext.drewN | (refine Ext.trans ?_ (by assumption))))⟩
  | 1, _ =>
    go_enter Try.func36, Try.ntmps36
    go_wp2
    exact bodyPost_ret (v := .agg #[.slice (some ⟨w.heap.size + 1, 0, none⟩) 3 3]) (by simp [results, Try.results36, go_sem, World.cell?_alloc_past]) rfl ⟨_, _, rfl, by decide, shape_own w (shp 1) 3, by (repeat (first | exact Ext.refl _ | assumption | apply Ext.alloc | apply Ext.drew | apply Ext.drewN | (refine Ext.trans ?_ (by assumption))))⟩
  | 2, _ =>
    go_enter Try.func36, Try.ntmps36
    go_wp2
    exact bodyPost_ret (v := .agg #[.slice (some ⟨w.heap.size + 1, 0, none⟩) 6 6]) (by simp [results, Try.results36, go_sem, World.cell?_alloc_past]) rfl ⟨_, _, rfl, by decide, shape_own w (shp 2) 6, by (repeat (first | exact Ext.refl _ | assumption | apply Ext.alloc | apply Ext.drew | apply Ext.drewN | (refine Ext.trans ?_ (by assumption))))⟩
  | 3, _ =>
    go_enter Try.func36, Try.ntmps36
    go_wp2
    exact bodyPost_ret (v := .agg #[.slice (some ⟨w.heap.size + 1, 0, none⟩) 5 5]) (by simp [results, Try.results36, go_sem, World.cell?_alloc_past]) rfl ⟨_, _, rfl, by decide, shape_own w (shp 3) 5, by (repeat (first | exact Ext.refl _ | assumption | apply Ext.alloc | apply Ext.drew | apply Ext.drewN | (refine Ext.trans ?_ (by assumption))))⟩
  | 4, _ =>
    go_enter Try.func36, Try.ntmps36
    go_wp2
    exact bodyPost_ret (v := .agg #[.slice (some ⟨w.heap.size + 1, 0, none⟩) 7 7]) (by simp [results, Try.results36, go_sem, World.cell?_alloc_past]) rfl ⟨_, _, rfl, by decide, shape_own w (shp 4) 7, by (repeat (first | exact Ext.refl _ | assumption | apply Ext.alloc | apply Ext.drew | apply Ext.drewN | (refine Ext.trans ?_ (by assumption))))⟩
  | 5, _ =>
    go_enter Try.func36, Try.ntmps36
    go_wp2
    exact bodyPost_ret (v := .agg #[.slice (some ⟨w.heap.size + 1, 0, none⟩) 10 10]) (by simp [results, Try.results36, go_sem, World.cell?_alloc_past]) rfl ⟨_, _, rfl, by decide, shape_own w (shp 5) 10, by (repeat (first | exact Ext.refl _ | assumption | apply Ext.alloc | apply Ext.drew | apply Ext.drewN | (refine Ext.trans ?_ (by assumption))))⟩
  | 6, _ =>
    go_enter Try.func36, Try.ntmps36
    go_wp2
    exact bodyPost_ret (v := .agg #[.slice (some ⟨w.heap.size + 1, 0, none⟩) 6 6]) (by simp [results, Try.results36, go_sem, World.cell?_alloc_past]) rfl ⟨_, _, rfl, by decide, shape_own w (shp 6) 6, by (repeat (first | exact Ext.refl _ | assumption | apply Ext.alloc | apply Ext.drew | apply Ext.drewN | (refine Ext.trans ?_ (by assumption))))⟩
  | 7, _ =>
    go_enter Try.func36, Try.ntmps36
    go_wp2
    exact bodyPost_ret (v := .agg #[.slice (some ⟨w.heap.size + 1, 0, none⟩) 5 5]) (by simp [results, Try.results36, go_sem, World.cell?_alloc_past]) rfl ⟨_, _, rfl, by decide, shape_own w (shp 7) 5, by (repeat (first | exact Ext.refl _ | assumption | apply Ext.alloc | apply Ext.drew | apply Ext.drewN | (refine Ext.trans ?_ (by assumption))))⟩
  | n + 8, h => exact absurd h (by omega)

end Go.Proofs.Ytjccilpjaaiicaa

namespace Go.Proofs.Ytjccilpjaaiicaa
open Go.RowKit

/-- c lies on the straight way from a to b -/
def OnZ (a b c : Int × Int) : Prop := turnZ a.1 a.2 b.1 b.2 c.1 c.2 = 0 ∧ (min a.1 b.1 ≤ c.1 ∧ c.1 ≤ max a.1 b.1) ∧ (min a.2 b.2 ≤ c.2 ∧ c.2 ≤ max a.2 b.2)
def DD (a b : Int × Int) : Int := (b.1 - a.1) * (b.1 - a.1) + (b.2 - a.2) * (b.2 - a.2)
def tt (a b c : Int × Int) : Int := (c.1 - a.1) * (b.1 - a.1) + (c.2 - a.2) * (b.2 - a.2)
/-- the square of the distance from a -/
def kk (a c : Int × Int) : Int := sqZ a.1 a.2 c.1 c.2

theorem sq_nn (x : Int) : 0 ≤ x * x := by
  rcases Int.le_total 0 x with h | h
  · exact Int.mul_nonneg h h
  · have := Int.mul_nonneg (show 0 ≤ -x by omega) (show 0 ≤ -x by omega)
    rwa [Int.neg_mul_neg] at this
theorem sq_pos' {x : Int} (h : x ≠ 0) : 0 < x * x := by
  rcases Int.lt_or_gt_of_ne h with h | h
  · have := Int.mul_pos (show 0 < -x by omega) (show 0 < -x by omega)
    rwa [Int.neg_mul_neg] at this
  · exact Int.mul_pos h h
theorem DD_pos {a b : Int × Int} (h : a ≠ b) : 0 < DD a b := by
  unfold DD
  have h1 := sq_nn (b.1 - a.1)
  have h2 := sq_nn (b.2 - a.2)
  by_cases e : b.1 - a.1 = 0
  · have e2 : b.2 - a.2 ≠ 0 := fun e2 => h (Prod.ext (by omega) (by omega))
    have := sq_pos' e2
    omega
  · have := sq_pos' e
    omega

theorem prod_nn {a b c : Int} (h : min a b ≤ c ∧ c ≤ max a b) : 0 ≤ (c - a) * (b - a) := by
  rcases Int.le_total a b with h1 | h1
  · exact Int.mul_nonneg (by omega) (by omega)
  · have := Int.mul_nonneg (show 0 ≤ -(c - a) by omega) (show 0 ≤ -(b - a) by omega)
    rwa [Int.neg_mul_neg] at this

theorem tt_nn {a b c : Int × Int} (h : OnZ a b c) : 0 ≤ tt a b c := by
  have h1 := prod_nn h.2.1
  have h2 := prod_nn h.2.2
  unfold tt
  omega
theorem ttx {a b c : Int × Int} (h : OnZ a b c) : (c.1 - a.1) * DD a b = tt a b c * (b.1 - a.1) := by
  have e := h.1
  unfold turnZ at e
  unfold DD tt
  grind
theorem tty {a b c : Int × Int} (h : OnZ a b c) : (c.2 - a.2) * DD a b = tt a b c * (b.2 - a.2) := by
  have e := h.1
  unfold turnZ at e
  unfold DD tt
  grind
theorem kk_tt {a b c : Int × Int} (h : OnZ a b c) : kk a c * DD a b = tt a b c * tt a b c := by
  have e := h.1
  unfold turnZ at e
  unfold DD tt kk sqZ
  grind

theorem sq_le_iff {s t : Int} (hs : 0 ≤ s) (ht : 0 ≤ t) : s * s ≤ t * t ↔ s ≤ t := by
  constructor
  · intro h
    apply Int.le_of_not_gt
    intro hlt
    have h1 := Int.mul_pos (show 0 < s - t by omega) (show 0 < s + t by omega)
    have e : (s - t) * (s + t) = s * s - t * t := by grind
    omega
  · intro h
    have h1 := Int.mul_nonneg (show 0 ≤ t - s by omega) (show 0 ≤ t + s by omega)
    have e : (t - s) * (t + s) = t * t - s * s := by grind
    omega

theorem kk_le_iff {a b x y : Int × Int} (hab : a ≠ b) (hx : OnZ a b x) (hy : OnZ a b y) : kk a x ≤ kk a y ↔ tt a b x ≤ tt a b y := by
  have hD := DD_pos hab
  rw [← sq_le_iff (tt_nn hx) (tt_nn hy), ← kk_tt hx, ← kk_tt hy]
  constructor
  · intro h; exact Int.mul_le_mul_of_nonneg_right h (by omega)
  · intro h; exact Int.le_of_mul_le_mul_right h hD

theorem kk_inj {a b x y : Int × Int} (hab : a ≠ b) (hx : OnZ a b x) (hy : OnZ a b y) (h : kk a x = kk a y) : x = y := by
  have hD := DD_pos hab
  have h1 := (kk_le_iff hab hx hy).1 (by omega)
  have h2 := (kk_le_iff hab hy hx).1 (by omega)
  have ht : tt a b x = tt a b y := by omega
  have x1 := ttx hx
  have y1 := ttx hy
  have x2 := tty hx
  have y2 := tty hy
  rw [ht, ← y1] at x1
  rw [ht, ← y2] at x2
  have e1 := Int.eq_of_mul_eq_mul_right (by omega) x1
  have e2 := Int.eq_of_mul_eq_mul_right (by omega) x2
  exact Prod.ext (by omega) (by omega)

/-- between by the order: between on the line -/
theorem onz_of_kk {a b x y z : Int × Int} (hab : a ≠ b) (hx : OnZ a b x) (hy : OnZ a b y) (hz : OnZ a b z) (h1 : kk a x ≤ kk a z) (h2 : kk a z ≤ kk a y) : OnZ x y z := by
  have hD := DD_pos hab
  have t1 := (kk_le_iff hab hx hz).1 h1
  have t2 := (kk_le_iff hab hz hy).1 h2
  have x1 := ttx hx
  have y1 := ttx hy
  have z1 := ttx hz
  have x2 := tty hx
  have y2 := tty hy
  have z2 := tty hz
  refine ⟨?_, ?_, ?_⟩
  · have e1 : (y.1 - x.1) * DD a b = (tt a b y - tt a b x) * (b.1 - a.1) := by grind
    have e2 : (y.2 - x.2) * DD a b = (tt a b y - tt a b x) * (b.2 - a.2) := by grind
    have e3 : (z.1 - x.1) * DD a b = (tt a b z - tt a b x) * (b.1 - a.1) := by grind
    have e4 : (z.2 - x.2) * DD a b = (tt a b z - tt a b x) * (b.2 - a.2) := by grind
    have e : turnZ x.1 x.2 y.1 y.2 z.1 z.2 * (DD a b * DD a b) = 0 := by
      unfold turnZ
      have a1 : (y.1 - x.1) * (z.2 - x.2) * (DD a b * DD a b) = ((y.1 - x.1) * DD a b) * ((z.2 - x.2) * DD a b) := by grind
      have a2 : (y.2 - x.2) * (z.1 - x.1) * (DD a b * DD a b) = ((y.2 - x.2) * DD a b) * ((z.1 - x.1) * DD a b) := by grind
      rw [Int.sub_mul, a1, a2, e1, e2, e3, e4]
      grind
    rcases Int.mul_eq_zero.1 e with h | h
    · exact h
    · exfalso
      have := Int.mul_pos hD hD
      omega
  · have e3 : (z.1 - x.1) * DD a b = (tt a b z - tt a b x) * (b.1 - a.1) := by grind
    have e4 : (y.1 - z.1) * DD a b = (tt a b y - tt a b z) * (b.1 - a.1) := by grind
    rcases Int.le_total 0 (b.1 - a.1) with h | h
    · have p1 := Int.mul_nonneg (show 0 ≤ tt a b z - tt a b x by omega) h
      have p2 := Int.mul_nonneg (show 0 ≤ tt a b y - tt a b z by omega) h
      rw [← e3] at p1
      rw [← e4] at p2
      have q1 := Int.nonneg_of_mul_nonneg_left p1 hD
      have q2 := Int.nonneg_of_mul_nonneg_left p2 hD
      omega
    · have p1 := Int.mul_nonneg (show 0 ≤ tt a b z - tt a b x by omega) (show 0 ≤ -(b.1 - a.1) by omega)
      have p2 := Int.mul_nonneg (show 0 ≤ tt a b y - tt a b z by omega) (show 0 ≤ -(b.1 - a.1) by omega)
      rw [Int.mul_neg, ← e3, ← Int.neg_mul] at p1
      rw [Int.mul_neg, ← e4, ← Int.neg_mul] at p2
      have q1 := Int.nonneg_of_mul_nonneg_left p1 hD
      have q2 := Int.nonneg_of_mul_nonneg_left p2 hD
      omega
  · have e3 : (z.2 - x.2) * DD a b = (tt a b z - tt a b x) * (b.2 - a.2) := by grind
    have e4 : (y.2 - z.2) * DD a b = (tt a b y - tt a b z) * (b.2 - a.2) := by grind
    rcases Int.le_total 0 (b.2 - a.2) with h | h
    · have p1 := Int.mul_nonneg (show 0 ≤ tt a b z - tt a b x by omega) h
      have p2 := Int.mul_nonneg (show 0 ≤ tt a b y - tt a b z by omega) h
      rw [← e3] at p1
      rw [← e4] at p2
      have q1 := Int.nonneg_of_mul_nonneg_left p1 hD
      have q2 := Int.nonneg_of_mul_nonneg_left p2 hD
      omega
    · have p1 := Int.mul_nonneg (show 0 ≤ tt a b z - tt a b x by omega) (show 0 ≤ -(b.2 - a.2) by omega)
      have p2 := Int.mul_nonneg (show 0 ≤ tt a b y - tt a b z by omega) (show 0 ≤ -(b.2 - a.2) by omega)
      rw [Int.mul_neg, ← e3, ← Int.neg_mul] at p1
      rw [Int.mul_neg, ← e4, ← Int.neg_mul] at p2
      have q1 := Int.nonneg_of_mul_nonneg_left p1 hD
      have q2 := Int.nonneg_of_mul_nonneg_left p2 hD
      omega

theorem same_way {D d p q s : Int} (hD : 0 < D) (hs : 0 ≤ s) (e : (q - p) * D = s * d) {z : Int} (h : min p q ≤ z ∧ z ≤ max p q) : 0 ≤ (z - p) * d ∧ 0 ≤ (q - z) * d := by
  rcases Int.lt_trichotomy d 0 with hd | hd | hd
  · have p1 := Int.mul_nonneg hs (show 0 ≤ -d by omega)
    rw [Int.mul_neg, ← e, ← Int.neg_mul] at p1
    have q1 := Int.nonneg_of_mul_nonneg_left p1 hD
    have r1 := Int.mul_nonneg (show 0 ≤ -(z - p) by omega) (show 0 ≤ -d by omega)
    have r2 := Int.mul_nonneg (show 0 ≤ -(q - z) by omega) (show 0 ≤ -d by omega)
    rw [Int.neg_mul_neg] at r1 r2
    exact ⟨r1, r2⟩
  · subst hd; simp
  · have p1 := Int.mul_nonneg hs (show 0 ≤ d by omega)
    rw [← e] at p1
    have q1 := Int.nonneg_of_mul_nonneg_left p1 hD
    exact ⟨Int.mul_nonneg (by omega) (by omega), Int.mul_nonneg (by omega) (by omega)⟩

/-- between on the line: between by the order -/
theorem kk_of_onz {a b x y z : Int × Int} (hab : a ≠ b) (hx : OnZ a b x) (hy : OnZ a b y) (hz : OnZ a b z) (h : kk a x ≤ kk a y) (ho : OnZ x y z) : kk a x ≤ kk a z ∧ kk a z ≤ kk a y := by
  have hD := DD_pos hab
  have t1 := (kk_le_iff hab hx hy).1 h
  rw [kk_le_iff hab hx hz, kk_le_iff hab hz hy]
  have x1 := ttx hx
  have y1 := ttx hy
  have x2 := tty hx
  have y2 := tty hy
  have e1 : (y.1 - x.1) * DD a b = (tt a b y - tt a b x) * (b.1 - a.1) := by grind
  have e2 : (y.2 - x.2) * DD a b = (tt a b y - tt a b x) * (b.2 - a.2) := by grind
  have m1 := same_way hD (by omega) e1 ho.2.1
  have m2 := same_way hD (by omega) e2 ho.2.2
  have u1 : tt a b z - tt a b x = (z.1 - x.1) * (b.1 - a.1) + (z.2 - x.2) * (b.2 - a.2) := by unfold tt; grind
  have u2 : tt a b y - tt a b z = (y.1 - z.1) * (b.1 - a.1) + (y.2 - z.2) * (b.2 - a.2) := by unfold tt; grind
  omega

theorem onz_comm {x y z : Int × Int} : OnZ x y z ↔ OnZ y x z := by
  have e : turnZ y.1 y.2 x.1 x.2 z.1 z.2 = - turnZ x.1 x.2 y.1 y.2 z.1 z.2 := by unfold turnZ; grind
  unfold OnZ
  rw [e, Int.min_comm y.1 x.1, Int.min_comm y.2 x.2, Int.max_comm y.1 x.1, Int.max_comm y.2 x.2]
  constructor <;> (intro h; exact ⟨by omega, h.2⟩)

theorem onW_iff {a b c : Int × Int} (ha : within 1000000 a.1 a.2) (hb : within 1000000 b.1 b.2) (hc : within 1000000 c.1 c.2) : onW c.1 c.2 a.1 a.2 b.1 b.2 = true ↔ OnZ a b c := by
  unfold onW OnZ inB
  rw [turnW_eq ha hb hc]
  simp

theorem onz_start (a b : Int × Int) : OnZ a b a := by
  refine ⟨by unfold turnZ; grind, by omega, by omega⟩
theorem onz_end (a b : Int × Int) : OnZ a b b := by
  refine ⟨by unfold turnZ; grind, by omega, by omega⟩
theorem onz_same {a c : Int × Int} (h : OnZ a a c) : c = a := Prod.ext (by have := h.2.1; omega) (by have := h.2.2; omega)

/-! ## A list, sorted by a key, and the same list as it comes -/

section
variable {α : Type} {d : α}
/-- p_i is before p_j by the key, for i < j -/
def SortedK (K : α → Int) (d : α) (s : List α) : Prop := ∀ i j, i < j → j < s.length → K (s.getD i d) ≤ K (s.getD j d)
/-- no other one lies strictly between x and y -/
def Next (K : α → Int) (c : List α) (x y : α) : Prop := x ∈ c ∧ y ∈ c ∧ K x < K y ∧ ∀ z, z ∈ c → ¬ (K x < K z ∧ K z < K y)

theorem getD_mem {c : List α} {i : Nat} (h : i < c.length) : c.getD i d ∈ c := by
  rw [List.getD_eq_getElem?_getD, List.getElem?_eq_getElem h]
  exact List.getElem_mem h
theorem mem_getD {c : List α} {x : α} (h : x ∈ c) : ∃ i, i < c.length ∧ c.getD i d = x := by
  obtain ⟨i, hi, e⟩ := List.mem_iff_getElem.1 h
  refine ⟨i, hi, ?_⟩
  rw [List.getD_eq_getElem?_getD, List.getElem?_eq_getElem hi]
  exact e
theorem nodup_getD {c : List α} (hn : c.Nodup) {i j : Nat} (hi : i < c.length) (hj : j < c.length) (h : c.getD i d = c.getD j d) : i = j := by
  rw [List.getD_eq_getElem?_getD, List.getElem?_eq_getElem hi, List.getD_eq_getElem?_getD, List.getElem?_eq_getElem hj] at h
  have h : c[i] = c[j] := h
  have hp := List.pairwise_iff_getElem.1 hn
  rcases Nat.lt_trichotomy i j with h1 | h1 | h1
  · exact absurd h (hp i j hi hj h1)
  · exact h1
  · exact absurd h.symm (hp j i hj hi h1)

theorem sorted_next {K : α → Int} {Q : α → α → Prop} {c s : List α} (hp : s.Perm c) (hn : c.Nodup) (hK : ∀ x y, x ∈ c → y ∈ c → K x = K y → x = y) (hs : SortedK K d s) :
    (∀ i, i + 1 < s.length → Q (s.getD i d) (s.getD (i + 1) d)) ↔ ∀ x y, Next K c x y → Q x y := by
  have hm : ∀ x, x ∈ s ↔ x ∈ c := fun x => hp.mem_iff
  have hns : s.Nodup := hp.nodup_iff.2 hn
  constructor
  · rintro h x y ⟨hx, hy, hlt, hno⟩
    obtain ⟨p, hp1, rfl⟩ := mem_getD (d := d) ((hm x).2 hx)
    obtain ⟨q, hq1, rfl⟩ := mem_getD (d := d) ((hm y).2 hy)
    rcases Nat.lt_trichotomy p q with h1 | h1 | h1
    · rcases Nat.lt_or_ge (p + 1) q with h2 | h2
      · exfalso
        have k1 := hs p (p + 1) (by omega) (by omega)
        have k2 := hs (p + 1) q (by omega) (by omega)
        have hz : s.getD (p + 1) d ∈ c := (hm _).1 (getD_mem (by omega))
        refine hno _ hz ⟨?_, ?_⟩
        · rcases Int.lt_or_le (K (s.getD p d)) (K (s.getD (p + 1) d)) with h3 | h3
          · exact h3
          · have := nodup_getD hns hp1 (by omega) (hK _ _ hx hz (by omega))
            omega
        · rcases Int.lt_or_le (K (s.getD (p + 1) d)) (K (s.getD q d)) with h3 | h3
          · exact h3
          · have := nodup_getD hns (by omega) hq1 (hK _ _ hz hy (by omega))
            omega
      · obtain rfl : q = p + 1 := by omega
        exact h p hq1
    · subst h1; omega
    · have := hs q p h1 hp1
      omega
  · intro h i hi
    have hx : s.getD i d ∈ c := (hm _).1 (getD_mem (by omega))
    have hy : s.getD (i + 1) d ∈ c := (hm _).1 (getD_mem hi)
    refine h _ _ ⟨hx, hy, ?_, ?_⟩
    · rcases Int.lt_or_le (K (s.getD i d)) (K (s.getD (i + 1) d)) with h3 | h3
      · exact h3
      · have h4 := hs i (i + 1) (by omega) hi
        have := nodup_getD hns (by omega) hi (hK _ _ hx hy (by omega))
        omega
    · rintro z hz ⟨h1, h2⟩
      obtain ⟨r, hr, rfl⟩ := mem_getD (d := d) ((hm z).2 hz)
      rcases Nat.lt_or_ge i r with h3 | h3
      · rcases Nat.lt_or_ge (i + 1) r with h4 | h4
        · have := hs (i + 1) r h4 hr
          omega
        · obtain rfl : r = i + 1 := by omega
          omega
      · rcases Nat.lt_or_ge r i with h4 | h4
        · have := hs r i h4 (by omega)
          omega
        · obtain rfl : r = i := by omega
          omega

theorem pairs_next {K : α → Int} {Q : α → α → Prop} {B : α → α → α → Prop} {c : List α} (hn : c.Nodup) (hK : ∀ x y, x ∈ c → y ∈ c → K x = K y → x = y) (hQ : ∀ x y, Q x y → Q y x)
    (hB : ∀ z x y, B z x y → B z y x) (h1 : ∀ x y z, x ∈ c → y ∈ c → z ∈ c → K x ≤ K z → K z ≤ K y → B z x y) (h2 : ∀ x y z, x ∈ c → y ∈ c → z ∈ c → K x ≤ K y → B z x y → K x ≤ K z ∧ K z ≤ K y) :
    (∀ i k, i < c.length → k < i → (∀ j, j < c.length → j ≠ i → j ≠ k → ¬ B (c.getD j d) (c.getD i d) (c.getD k d)) → Q (c.getD i d) (c.getD k d)) ↔ ∀ x y, Next K c x y → Q x y := by
  constructor
  · rintro h x y ⟨hx, hy, hlt, hno⟩
    obtain ⟨p, hp1, rfl⟩ := mem_getD (d := d) hx
    obtain ⟨q, hq1, rfl⟩ := mem_getD (d := d) hy
    have free : ∀ j, j < c.length → j ≠ p → j ≠ q → ¬ B (c.getD j d) (c.getD p d) (c.getD q d) := fun j hj n1 n2 hb => by
      have hz := getD_mem (d := d) hj
      obtain ⟨k1, k2⟩ := h2 _ _ _ hx hy hz (by omega) hb
      refine hno _ hz ⟨?_, ?_⟩
      · rcases Int.lt_or_le (K (c.getD p d)) (K (c.getD j d)) with h3 | h3
        · exact h3
        · exact absurd (nodup_getD hn hj hp1 (hK _ _ hz hx (by omega))) n1
      · rcases Int.lt_or_le (K (c.getD j d)) (K (c.getD q d)) with h3 | h3
        · exact h3
        · exact absurd (nodup_getD hn hj hq1 (hK _ _ hz hy (by omega))) n2
    rcases Nat.lt_trichotomy p q with h3 | h3 | h3
    · exact hQ _ _ (h q p hq1 h3 (fun j hj n1 n2 hb => free j hj n2 n1 (hB _ _ _ hb)))
    · subst h3; omega
    · exact h p q hp1 h3 free
  · intro h i k hi hk free
    have hx := getD_mem (d := d) hi
    have hy : c.getD k d ∈ c := getD_mem (d := d) (by omega)
    have go : ∀ p q, p < c.length → q < c.length → p ≠ q → (∀ j, j < c.length → j ≠ p → j ≠ q → ¬ B (c.getD j d) (c.getD p d) (c.getD q d)) → K (c.getD p d) ≤ K (c.getD q d) → Q (c.getD p d) (c.getD q d) := fun p q hp hq hne hfr hle => by
      have hx := getD_mem (d := d) hp
      have hy := getD_mem (d := d) hq
      refine h _ _ ⟨hx, hy, ?_, ?_⟩
      · rcases Int.lt_or_le (K (c.getD p d)) (K (c.getD q d)) with h3 | h3
        · exact h3
        · exact absurd (nodup_getD hn hp hq (hK _ _ hx hy (by omega))) hne
      · rintro z hz ⟨g1, g2⟩
        obtain ⟨j, hj, rfl⟩ := mem_getD (d := d) hz
        refine hfr j hj (fun e => by subst e; omega) (fun e => by subst e; omega) (h1 _ _ _ hx hy hz (by omega) (by omega))
    rcases Int.le_total (K (c.getD i d)) (K (c.getD k d)) with h3 | h3
    · exact go i k hi (by omega) (by omega) free h3
    · exact hQ _ _ (go k i (by omega) hi (by omega) (fun j hj n1 n2 hb => free j hj n2 n1 (hB _ _ _ hb)) h3)
end

end Go.Proofs.Ytjccilpjaaiicaa

namespace Go.Proofs.Ytjccilpjaaiicaa
open Go.RowKit

/-- how far corner k is behind corner i -/
def gap (n i k : Nat) : Nat := if i ≤ k then k - i else k + n - i
theorem gap_lt {n i k : Nat} (hi : i < n) (hk : k < n) : gap n i k < n := by
  unfold gap
  split <;> omega
theorem mod_two {a n : Nat} (h : a < 2 * n) : a % n = if a < n then a else a - n := by
  split
  · rename_i h1; exact Nat.mod_eq_of_lt h1
  · rename_i h1
    rw [Nat.mod_eq_sub_mod (by omega), Nat.mod_eq_of_lt (by omega)]
theorem gap_end {n i k : Nat} (hi : i < n) (hk : k < n) : (i + gap n i k) % n = k := by
  have h := gap_lt hi hk
  rw [mod_two (by omega)]
  unfold gap at *
  by_cases e : i ≤ k
  · rw [if_pos e, if_pos (by omega)]; omega
  · rw [if_neg e, if_neg (by omega)]; omega
theorem gap_at {n i j : Nat} (hi : i < n) (hj : j < n) : gap n i ((i + j) % n) = j := by
  rw [mod_two (by omega)]
  unfold gap
  by_cases e : i + j < n
  · rw [if_pos e, if_pos (by omega)]; omega
  · rw [if_neg e, if_neg (by omega)]; omega
theorem gap_ne {n i k j : Nat} (hi : i < n) (hk : k < n) (hj : j < gap n i k) : (i + j) % n ≠ k := by
  have h := gap_lt hi hk
  rw [mod_two (by omega)]
  unfold gap at *
  split <;> split at hj <;> omega
theorem mod_step (n i j : Nat) : ((i + j) % n + 1) % n = (i + (j + 1)) % n := by
  rw [Nat.mod_add_mod, Nat.add_assoc]
/-- the corners from i to k -/
def stL (l : List (Int × Int)) (i k : Nat) : List (Int × Int) := rotL l i (gap l.length i k + 1)
theorem stL_length (l : List (Int × Int)) (i k : Nat) : (stL l i k).length = gap l.length i k + 1 := rotL_length _ _ _


set_option maxRecDepth 100000 in
set_option maxHeartbeats 3200000 in
theorem stretch_any (A : Option Addr) (l : List (Int × Int)) (c i k : Nat) (w : World) (hp : RPts w A l) (hn : l.length ≤ 1048576) (hi : i < l.length) (hk : k < l.length) :
    Calls Try.prog 30 #[.agg #[.slice A l.length c], .int .i64 i, .int .i64 k] w (RetR 28 (stL l i k) w) := by
  obtain ⟨b, off, rfl⟩ := hp.some_ (by omega)
  obtain ⟨i0, hI, hZ, hS, hY⟩ := info_parts info_ipt
  obtain ⟨d, hd⟩ : ∃ d, d = gap l.length i k := ⟨_, rfl⟩
  have hdl : d < l.length := by rw [hd]; exact gap_lt hi hk
  have HEND := hide (show (i + d) % l.length = k by rw [hd]; exact gap_end hi hk)
  have HNE := hide (show ∀ j, j < d → (i + j) % l.length ≠ k from fun j hj => gap_ne hi hk (by omega))
  have HV := hide (show stL l i k = rotL l i (d + 1) by rw [hd]; rfl)
  have HI3 := hide (show ((l.length : Int) == 0) = false by simp only [beq_eq_false_iff_ne]; omega)
  clear hd
  have HB : Hid (∀ w', Ext ((w.alloc (.cells #[.slice (some ⟨b, off, none⟩) l.length c] 26)).alloc (.cells #[.slice none 0 0] 26)) w' → w'.cell? ⟨w.heap.size, 0, none⟩ = some (.slice (some ⟨b, off, none⟩) l.length c) ∧ w.heap.size < w'.heap.size ∧ w'.cell? ⟨w.heap.size + 1, 0, none⟩ = some (.slice none 0 0) ∧ w'.frozen? ⟨w.heap.size + 1, 0, none⟩ = false ∧ w.heap.size + 1 < w'.heap.size) := fun w' hx => by
    and_intros <;> (first | (have hz := hx.size; simp at hz; omega) | ((first | rw [hx.cells _ _ (by first | (simp; done) | (simp; omega))] | rw [hx.frozens _ _ (by first | (simp; done) | (simp; omega))]); (first | (simp [go_sem]; done) | (simp [go_sem, World.cell?_alloc_past]; done) | (simp [go_sem, World.frozen?]; done))))
  go_enter Try.func30, Try.ntmps30
  go_wp2
  go_loopw [1] (fun iv wr => ∃ (j : Nat) (v : Value), j ≤ d ∧ iv = .int .i64 (((i + j) % l.length : Nat) : Int) ∧ Ext ((w.alloc (.cells #[.slice (some ⟨b, off, none⟩) l.length c] 26)).alloc (.cells #[.slice none 0 0] 26)) wr ∧ OneC wr (w.heap.size + 1 + 1) 26 v ∧ wr.ownsRow (w.heap.size + 1 + 1 + 1) 28 2 v j (flat (rotL l i j))) (fun iv _ => d - gap l.length i (intOf iv).toNat)
  case atStart => exact ⟨0, .slice none 0 0, Nat.zero_le _, by rw [Nat.add_zero, Nat.mod_eq_of_lt hi], by (repeat (first | exact Ext.refl _ | assumption | apply Ext.alloc | apply Ext.drew | apply Ext.drewN | (refine Ext.trans ?_ (by assumption)))), by have h := OneC.new ((w.alloc (.cells #[.slice (some ⟨b, off, none⟩) l.length c] 26)).alloc (.cells #[.slice none 0 0] 26)) 26 (.slice none 0 0); simpa using h, ⟨rfl, .inl ⟨rfl, rfl⟩⟩⟩
  case round =>
    obtain ⟨j, v, hj, rfl, hbl, hone, hown⟩ := hrel
    obtain ⟨wq, rfl⟩ : ∃ wq : World, wq = wr := ⟨_, rfl⟩
    have hcb := HB.out wq hbl
    obtain ⟨mm, hmm⟩ : ∃ q : Nat, q = (i + j) % l.length := ⟨_, rfl⟩
    have hml : mm < l.length := by rw [hmm]; exact Nat.mod_lt _ (by omega)
    by_cases hlt : j < d
    · have hne := HNE.out j hlt
      rw [← hmm] at hne
      have hne2 : ((mm : Int) != (k : Int)) = true := by simp only [bne_iff_ne, ne_eq]; omega
      have hpl : gx l mm = (l.getD mm (0, 0)).1 ∧ gy l mm = (l.getD mm (0, 0)).2 := ⟨rfl, rfl⟩
      have HRS := hide (show flat (rotL l i (j + 1)) = flat (rotL l i j) ++ [.int .i64 (gx l mm), .int .i64 (gy l mm)] by rw [rotL_succ, flat_append, ← hmm]; rfl)
      have hst : (mm + 1) % l.length = (i + (j + 1)) % l.length := by rw [hmm]; exact mod_step _ _ _
      have HST := hide hst
      rw [← hmm]
      have HMM := hide hmm
      clear hmm hpl hst
      obtain ⟨q1, q2, q3, q4, q5⟩ := idx_facts ((mm : Int) + 1) (mm + 1) l.length (by omega) (by omega) (by omega)
      have q7 : ((mm : Int) + 1) % (l.length : Int) = (((i + (j + 1)) % l.length : Nat) : Int) := by rw [← HST.out, Int.natCast_emod]; rfl
      obtain ⟨o1, o2, o3⟩ := hone.cell
      have j1 : (0 : Int) ≤ (mm : Int) := by omega
      have j2 : (mm : Int) < (l.length : Int) := by omega
      have j3 := HI3.out
      have j5 : ¬ l.length = 0 := by omega
      go_wp2
      refine wp_flow_tail 8 (by kernel_rfl) (by kernel_rfl) (by kernel_rfl) (by kernel_rfl) (fun u => ⟨#[_, _, _, _, _, _, _, _, _, _, _, _, _, _, _, _, _, _, u 0, u 1, u 2, u 3, u 4, u 5, u 6, u 7, _, _, _, _, _, _, _, _, _, _, _, _, _], _⟩) (fun i => List.getD [_, _, _, _, _, _, _, _] i undef) [is ?v1_0, is ?v1_1, is ?v1_2, is ?v1_3, is ?v1_4, is ?v1_5, is ?v1_6, (SLn wq.heap.size [.int .i64 (gx l mm), .int .i64 (gy l mm)] 1)] (fun w' => wq.heap.size ≤ w'.heap.size ∧ w'.cell? ⟨w.heap.size, 0, none⟩ = some (.slice (some ⟨b, off, none⟩) l.length c) ∧ w.heap.size < w'.heap.size ∧ w'.cell? ⟨w.heap.size + 1, 0, none⟩ = some (.slice none 0 0) ∧ w'.frozen? ⟨w.heap.size + 1, 0, none⟩ = false ∧ w.heap.size + 1 < w'.heap.size ∧ w'.cell? ⟨w.heap.size + 1 + 1, 0, none⟩ = some v ∧ w'.cell? ⟨b, off + mm * 2, none⟩ = some (.int .i64 (gx l (mm))) ∧ w'.cell? ⟨b, off + mm * 2 + 1, none⟩ = some (.int .i64 (gy l (mm)))) _ rfl ?hC1 ?hs1 ?hV1 ?fin1
      case hC1 => exact fun w' hq => by have h := HB.out w' (by (repeat (first | exact Ext.refl _ | assumption | apply Ext.alloc | apply Ext.drew | apply Ext.drewN | (refine Ext.trans ?_ (by assumption))))); have h2 := ((hp.ext (show Ext w w' by (repeat (first | exact Ext.refl _ | assumption | apply Ext.alloc | apply Ext.drew | apply Ext.drewN | (refine Ext.trans ?_ (by assumption)))))).cell hml).2; have h3 := (hone.ext hq).cell; have h4 : wq.heap.size ≤ w'.heap.size := (show Ext wq w' from hq).size; simp only [h, h2, h3, h4, and_self]
      case hs1 =>
        repeat' (first
          | exact FSteps.nil
          | refine FSteps.cons ?_ ?_
          | (refine FStep.off_ _ _ _ rfl rfl ?_ (fun _ => rfl) ?_; (focus (intro u w hd; simp [vOf, is, Region.binds] at hd; simp [hd])); (intro w'; exact rfl); done)
          | ((first
              | refine FStep.plain rfl ?_
              | (refine FStep.on_ _ _ _ rfl rfl ?_ ?_; (focus (intro u w hd; simp [vOf, is, Region.binds] at hd; simp [hd]))))
             intro u w hW hC hd K hK
             (try simp [vOf, is, Region.binds] at hd)
             simp only [upd, Nat.reduceEqDiff, if_true, if_false] at hK
             (try simp only [hd] at hK)
             go_simp
             (first
               | (refine hK _ _ ?_ ?_; (first | exact rfl | exact SLn_new _ _ hC.1); (repeat (first | exact Ext.refl _ | assumption | apply Ext.alloc | apply Ext.drew | apply Ext.drewN | (refine Ext.trans ?_ (by assumption))))))))
      case hV1 => (simp only [List.forall_mem_cons]; simp [stable_is, SLn_stable])
      case fin1 =>
        intro u w2 hW2 hC2 hd
        simp only [AllV, is] at hd
        have hs7 := hd.2.2.2.2.2.2.2.1
        simp only [List.drop_succ_cons, List.drop_zero]
        simp only [hd]
        clear hd
        obtain ⟨b1, hu, hb1, hb1', hcells⟩ := hs7
        have hown2 := ownsRow_ext hown (show Ext wq w2 by (repeat (first | exact Ext.refl _ | assumption | apply Ext.alloc | apply Ext.drew | apply Ext.drewN | (refine Ext.trans ?_ (by assumption)))))
        have h12 := hone.ext (show Ext wq w2 by (repeat (first | exact Ext.refl _ | assumption | apply Ext.alloc | apply Ext.drew | apply Ext.drewN | (refine Ext.trans ?_ (by assumption)))))
        simp only [hu]
        have hsz2 := (show Ext ((w.alloc (.cells #[.slice (some ⟨b, off, none⟩) l.length c] 26)).alloc (.cells #[.slice none 0 0] 26)) w2 by (repeat (first | exact Ext.refl _ | assumption | apply Ext.alloc | apply Ext.drew | apply Ext.drewN | (refine Ext.trans ?_ (by assumption))))).size
        simp at hsz2
        refine wpList_app _ rfl (.tmp 19) (.tmp 25) _ rfl (w.heap.size + 1 + 1 + 1) 28 i0 _ 2 16 Try.underlying24 hI hZ hS hY rfl (by omega) v j _ rfl hown2 ⟨b1, 0, none⟩ 1 1 _ rfl rfl (SLn.addr hcells) (by simp [Value.oneCell']) (by unfold maxLen; omega) (by omega) (by have := h12.cell.1; omega) ?_
        intro v' w3 hown3 hg3 _
        have hr3 : ∀ q, v.ownBlock = some q → w.heap.size + 1 + 1 + 1 ≤ q := fun q hq => (hown2.lt q hq).1
        have hx3 : Ext ((w.alloc (.cells #[.slice (some ⟨b, off, none⟩) l.length c] 26)).alloc (.cells #[.slice none 0 0] 26)) w3 := ext_grown (show Ext ((w.alloc (.cells #[.slice (some ⟨b, off, none⟩) l.length c] 26)).alloc (.cells #[.slice none 0 0] 26)) w2 by (repeat (first | exact Ext.refl _ | assumption | apply Ext.alloc | apply Ext.drew | apply Ext.drewN | (refine Ext.trans ?_ (by assumption))))) hg3 (fun q hq => by have := hr3 q hq; simp; omega)
        obtain ⟨A3, c3, rfl⟩ := ownsRow_slice hown3
        have h13 := h12.grown hg3 (fun e => by have := hr3 _ e; omega)
        obtain ⟨u1, u2, u3⟩ := h13.cell
        have hset := h13.set (.slice A3 (j + 1) c3)
        have hownS := ownsRow_set hown3 (p := ⟨w.heap.size + 1 + 1, 0, none⟩) (by show w.heap.size + 1 + 1 < _; omega) (.slice A3 (j + 1) c3)
        have hxs : Ext ((w.alloc (.cells #[.slice (some ⟨b, off, none⟩) l.length c] 26)).alloc (.cells #[.slice none 0 0] 26)) (w3.setCell ⟨w.heap.size + 1 + 1, 0, none⟩ (.slice A3 (j + 1) c3)) := hx3.setCell (by simp) _
        have HSET := hide hset
        have HOWN := hide hownS
        have HBS := HB.out _ hxs
        clear hset hownS hC2 hcells hown hown2 hg3 hown3 h12 h13 hr3
        go_wp2
        go_roundw
        case rel => exact ⟨j + 1, _, by omega, by first | rfl | (go_num; done) | (simp [*]; done), hxs, HSET.out, by rw [HRS.out]; exact HOWN.out⟩
        case measure =>
          have g1 := gap_at (j := j) hi (by omega)
          have g2 := gap_at (j := j + 1) hi (by omega)
          rw [← HMM.out] at g1
          have g3 : ((i : Int) + ((j : Int) + 1)) % (l.length : Int) = (((i + (j + 1)) % l.length : Nat) : Int) := by rw [Int.natCast_emod]; rfl
          simp only [g3, intOf, Int.toNat_natCast, g1, g2]
          omega
    · have e : j = d := by omega
      have hmk : mm = k := by rw [hmm, e]; exact HEND.out
      have HRS := hide (show flat (rotL l i (j + 1)) = flat (rotL l i j) ++ [.int .i64 (gx l k), .int .i64 (gy l k)] by rw [rotL_succ, flat_append, ← hmm, hmk]; rfl)
      have HV2 := hide (show stL l i k = rotL l i (j + 1) by rw [HV.out, e])
      rw [← hmm, hmk]
      have hne2 : ((k : Int) != (k : Int)) = false := by simp
      clear hmm hmk e hlt
      obtain ⟨o1, o2, o3⟩ := hone.cell
      have j1 : (0 : Int) ≤ (k : Int) := by omega
      have j2 : (k : Int) < (l.length : Int) := by omega
      have j3 := HI3.out
      have j5 : ¬ l.length = 0 := by omega
      go_wp2
      refine wp_flow_tail 8 (by kernel_rfl) (by kernel_rfl) (by kernel_rfl) (by kernel_rfl) (fun u => ⟨#[_, _, _, _, _, _, _, _, _, _, _, _, _, _, _, _, _, _, _, _, _, _, _, _, _, _, _, _, u 0, u 1, u 2, u 3, u 4, u 5, u 6, u 7, _, _, _], _⟩) (fun i => List.getD [_, _, _, _, _, _, _, _] i undef) [is ?v2_0, is ?v2_1, is ?v2_2, is ?v2_3, is ?v2_4, is ?v2_5, is ?v2_6, (SLn wq.heap.size [.int .i64 (gx l k), .int .i64 (gy l k)] 1)] (fun w' => wq.heap.size ≤ w'.heap.size ∧ w'.cell? ⟨w.heap.size, 0, none⟩ = some (.slice (some ⟨b, off, none⟩) l.length c) ∧ w.heap.size < w'.heap.size ∧ w'.cell? ⟨w.heap.size + 1, 0, none⟩ = some (.slice none 0 0) ∧ w'.frozen? ⟨w.heap.size + 1, 0, none⟩ = false ∧ w.heap.size + 1 < w'.heap.size ∧ w'.cell? ⟨w.heap.size + 1 + 1, 0, none⟩ = some v ∧ w'.cell? ⟨b, off + k * 2, none⟩ = some (.int .i64 (gx l (k))) ∧ w'.cell? ⟨b, off + k * 2 + 1, none⟩ = some (.int .i64 (gy l (k)))) _ rfl ?hC2 ?hs2 ?hV2 ?fin2
      case hC2 => exact fun w' hq => by have h := HB.out w' (by (repeat (first | exact Ext.refl _ | assumption | apply Ext.alloc | apply Ext.drew | apply Ext.drewN | (refine Ext.trans ?_ (by assumption))))); have h2 := ((hp.ext (show Ext w w' by (repeat (first | exact Ext.refl _ | assumption | apply Ext.alloc | apply Ext.drew | apply Ext.drewN | (refine Ext.trans ?_ (by assumption)))))).cell hk).2; have h3 := (hone.ext hq).cell; have h4 : wq.heap.size ≤ w'.heap.size := (show Ext wq w' from hq).size; simp only [h, h2, h3, h4, and_self]
      case hs2 =>
        repeat' (first
          | exact FSteps.nil
          | refine FSteps.cons ?_ ?_
          | (refine FStep.off_ _ _ _ rfl rfl ?_ (fun _ => rfl) ?_; (focus (intro u w hd; simp [vOf, is, Region.binds] at hd; simp [hd])); (intro w'; exact rfl); done)
          | ((first
              | refine FStep.plain rfl ?_
              | (refine FStep.on_ _ _ _ rfl rfl ?_ ?_; (focus (intro u w hd; simp [vOf, is, Region.binds] at hd; simp [hd]))))
             intro u w hW hC hd K hK
             (try simp [vOf, is, Region.binds] at hd)
             simp only [upd, Nat.reduceEqDiff, if_true, if_false] at hK
             (try simp only [hd] at hK)
             go_simp
             (first
               | (refine hK _ _ ?_ ?_; (first | exact rfl | exact SLn_new _ _ hC.1); (repeat (first | exact Ext.refl _ | assumption | apply Ext.alloc | apply Ext.drew | apply Ext.drewN | (refine Ext.trans ?_ (by assumption))))))))
      case hV2 => (simp only [List.forall_mem_cons]; simp [stable_is, SLn_stable])
      case fin2 =>
        intro u w2 hW2 hC2 hd
        simp only [AllV, is] at hd
        have hs7 := hd.2.2.2.2.2.2.2.1
        simp only [List.drop_succ_cons, List.drop_zero]
        simp only [hd]
        clear hd
        obtain ⟨b1, hu, hb1, hb1', hcells⟩ := hs7
        have hown2 := ownsRow_ext hown (show Ext wq w2 by (repeat (first | exact Ext.refl _ | assumption | apply Ext.alloc | apply Ext.drew | apply Ext.drewN | (refine Ext.trans ?_ (by assumption)))))
        have h12 := hone.ext (show Ext wq w2 by (repeat (first | exact Ext.refl _ | assumption | apply Ext.alloc | apply Ext.drew | apply Ext.drewN | (refine Ext.trans ?_ (by assumption)))))
        simp only [hu]
        have hsz2 := (show Ext ((w.alloc (.cells #[.slice (some ⟨b, off, none⟩) l.length c] 26)).alloc (.cells #[.slice none 0 0] 26)) w2 by (repeat (first | exact Ext.refl _ | assumption | apply Ext.alloc | apply Ext.drew | apply Ext.drewN | (refine Ext.trans ?_ (by assumption))))).size
        simp at hsz2
        refine wpList_app _ rfl (.tmp 29) (.tmp 35) _ rfl (w.heap.size + 1 + 1 + 1) 28 i0 _ 2 16 Try.underlying24 hI hZ hS hY rfl (by omega) v j _ rfl hown2 ⟨b1, 0, none⟩ 1 1 _ rfl rfl (SLn.addr hcells) (by simp [Value.oneCell']) (by unfold maxLen; omega) (by omega) (by have := h12.cell.1; omega) ?_
        intro v' w3 hown3 hg3 _
        have hr3 : ∀ q, v.ownBlock = some q → w.heap.size + 1 + 1 + 1 ≤ q := fun q hq => (hown2.lt q hq).1
        have hx3 : Ext ((w.alloc (.cells #[.slice (some ⟨b, off, none⟩) l.length c] 26)).alloc (.cells #[.slice none 0 0] 26)) w3 := ext_grown (show Ext ((w.alloc (.cells #[.slice (some ⟨b, off, none⟩) l.length c] 26)).alloc (.cells #[.slice none 0 0] 26)) w2 by (repeat (first | exact Ext.refl _ | assumption | apply Ext.alloc | apply Ext.drew | apply Ext.drewN | (refine Ext.trans ?_ (by assumption))))) hg3 (fun q hq => by have := hr3 q hq; simp; omega)
        obtain ⟨A3, c3, rfl⟩ := ownsRow_slice hown3
        have h13 := h12.grown hg3 (fun e => by have := hr3 _ e; omega)
        obtain ⟨u1, u2, u3⟩ := h13.cell
        have hset := h13.set (.slice A3 (j + 1) c3)
        have hownS := ownsRow_set hown3 (p := ⟨w.heap.size + 1 + 1, 0, none⟩) (by show w.heap.size + 1 + 1 < _; omega) (.slice A3 (j + 1) c3)
        have hxs : Ext ((w.alloc (.cells #[.slice (some ⟨b, off, none⟩) l.length c] 26)).alloc (.cells #[.slice none 0 0] 26)) (w3.setCell ⟨w.heap.size + 1 + 1, 0, none⟩ (.slice A3 (j + 1) c3)) := hx3.setCell (by simp) _
        have HSET := hide hset
        have HOWN := hide hownS
        have HBS := HB.out _ hxs
        clear hset hownS hC2 hcells hown hown2 hg3 hown3 h12 h13 hr3
        have hsz3 := hxs.size
        simp at hsz3
        go_wp2
        refine bodyPost_ret (v := .agg #[.slice A3 (j + 1) c3]) (by simp [results, Try.results30, go_sem, HBS]) rfl ?_
        have hlen : (stL l i k).length = j + 1 := by rw [HV2.out, rotL_length]
        have hown5 := HOWN.out
        rw [← HRS.out, ← HV2.out] at hown5
        have h6 := (OwnS.of_own hown5).2
        exact ⟨A3, c3, by rw [hlen], (h6.set_below (p := ⟨w.heap.size + 1, 0, none⟩) (by show w.heap.size + 1 < _; omega) _).more (by omega) (by simp only [size_setCell]; exact Nat.le_refl _), (show Ext w (w3.setCell ⟨w.heap.size + 1 + 1, 0, none⟩ (.slice A3 (j + 1) c3)) by (repeat (first | exact Ext.refl _ | assumption | apply Ext.alloc | apply Ext.drew | apply Ext.drewN | (refine Ext.trans ?_ (by assumption))))).setCell (by simp) _⟩

/-- a row of one point, in a block of its own -/
theorem ownsRow_one (w : World) (x y : Int) : (w.alloc (.cells #[.int .i64 x, .int .i64 y] 28)).ownsRow w.heap.size 28 2 (.slice (some ⟨w.heap.size, 0, none⟩) 1 1) 1 [.int .i64 x, .int .i64 y] :=
  ⟨rfl, .inr ⟨w.heap.size, 1, #[.int .i64 x, .int .i64 y], rfl, Nat.le_refl _, heap_alloc_new w _, Nat.le_refl _, by unfold maxLen; omega, rfl, rfl⟩⟩

end Go.Proofs.Ytjccilpjaaiicaa

namespace Go.Proofs.Ytjccilpjaaiicaa
open Go.RowKit

theorem roomB_iff (l : List (Int × Int)) : roomB l = true ↔ (3 ≤ l.length ∧ l.length ≤ 10) ∧ allok l = true ∧ (∀ i, i < l.length → tn l i ≠ 0) ∧ (∀ i k, i < l.length → k < l.length → askS l i k = true → mt l i k = false) ∧ 0 < areaZ l := by
  rw [← roomB_spec]
  unfold sizeB rowS
  simp only [Bool.and_eq_true, decide_eq_true_eq, List.all_eq_true, List.mem_range, Bool.not_eq_true', decide_eq_false_iff_not, Bool.and_eq_false_iff]
  constructor
  · rintro ⟨h1, h2, h3, h4⟩
    refine ⟨h1, h2, fun i hi => (h3 i hi).1, fun i k hi hk ha => ?_, h4⟩
    rcases (h3 i hi).2 k hk with h | h
    · rw [ha] at h; cases h
    · exact h
  · rintro ⟨h1, h2, h3, h4, h5⟩
    refine ⟨h1, h2, fun i hi => ⟨h3 i hi, fun k hk => ?_⟩, h5⟩
    cases ha : askS l i k
    · exact .inl rfl
    · exact .inr (h4 i k hi hk ha)

/-! ## Sums -/
def sm (f : Nat → Int) : Nat → Int
  | 0 => 0
  | k + 1 => sm f k + f k
theorem sm_congr (f g : Nat → Int) : ∀ n, (∀ i, i < n → f i = g i) → sm f n = sm g n
  | 0, _ => rfl
  | n + 1, h => by rw [sm, sm, sm_congr f g n (fun i hi => h i (by omega)), h n (by omega)]
theorem sm_split (f : Nat → Int) (a : Nat) : ∀ b, sm f (a + b) = sm f a + sm (fun i => f (a + i)) b
  | 0 => by simp [sm]
  | b + 1 => by rw [← Nat.add_assoc, sm, sm_split f a b, sm]; omega
theorem sm_rot (f : Nat → Int) {n m : Nat} (hm : m < n) : sm (fun i => f ((m + i) % n)) n = sm f n := by
  obtain ⟨q, rfl⟩ : ∃ q, n = q + m := ⟨n - m, by omega⟩
  have h1 := sm_split (fun i => f ((m + i) % (q + m))) q m
  have h2 := sm_split f m q
  rw [Nat.add_comm m q] at h2
  rw [h1, h2]
  have e1 : sm (fun i => f ((m + i) % (q + m))) q = sm (fun i => f (m + i)) q := sm_congr _ _ q fun i hi => by
    show f ((m + i) % (q + m)) = f (m + i)
    rw [Nat.mod_eq_of_lt (by omega)]
  have e2 : sm (fun i => f ((m + (q + i)) % (q + m))) m = sm f m := sm_congr _ _ m fun i hi => by
    show f ((m + (q + i)) % (q + m)) = f i
    rw [show m + (q + i) = i + (q + m) by omega, Nat.add_mod_right, Nat.mod_eq_of_lt (by omega)]
  rw [e1, e2]
  omega
theorem sm_add (f g : Nat → Int) : ∀ n, sm (fun i => f i + g i) n = sm f n + sm g n
  | 0 => rfl
  | n + 1 => by rw [sm, sm, sm, sm_add f g n]; omega
theorem sm_mul (c : Int) (f : Nat → Int) : ∀ n, sm (fun i => c * f i) n = c * sm f n
  | 0 => by simp [sm]
  | n + 1 => by rw [sm, sm, sm_mul c f n, Int.mul_add]
theorem areaTo_sm (l : List (Int × Int)) : ∀ k, areaTo l k = sm (fun i => gx l i * gy l (nx l i) - gy l i * gx l (nx l i)) k
  | 0 => rfl
  | k + 1 => by rw [areaTo_succ, areaTo_sm l k]; rfl
/-- a round trip ends where it began -/
theorem sm_trip (f : Nat → Int) {n : Nat} (hn : 1 < n) : sm (fun i => f ((i + 1) % n) - f i) n = 0 := by
  have h1 := sm_rot f hn
  have h2 : sm (fun i => f ((1 + i) % n)) n = sm (fun i => f ((i + 1) % n)) n := sm_congr _ _ n fun i _ => by rw [Nat.add_comm]
  have h3 := sm_add (fun i => f ((i + 1) % n) - f i) f n
  have h4 : sm (fun i => f ((i + 1) % n) - f i + f i) n = sm (fun i => f ((i + 1) % n)) n := sm_congr _ _ n fun i _ => by omega
  rw [h4] at h3
  omega

/-! ## Begun elsewhere -/
section
variable {l : List (Int × Int)} {m : Nat}
theorem getD_start (hm : m < l.length) {i : Nat} (hi : i < l.length) : (startL l m).getD i (0, 0) = l.getD ((m + i) % l.length) (0, 0) := by
  rw [← rotL_full hm, rotL, List.getD_eq_getElem?_getD, List.getElem?_map, List.getElem?_range hi]
  rfl
theorem gx_start (hm : m < l.length) {i : Nat} (hi : i < l.length) : gx (startL l m) i = gx l ((m + i) % l.length) := by unfold gx; rw [getD_start hm hi]
theorem gy_start (hm : m < l.length) {i : Nat} (hi : i < l.length) : gy (startL l m) i = gy l ((m + i) % l.length) := by unfold gy; rw [getD_start hm hi]
theorem nx_start {i : Nat} : nx (startL l m) i = (i + 1) % l.length := by unfold nx; rw [startL_length]
theorem shift_mod (n m i d : Nat) : (m + (i + d) % n) % n = ((m + i) % n + d) % n := by
  rw [Nat.add_mod_mod, Nat.mod_add_mod, Nat.add_assoc]
theorem shift_inj {n m i k : Nat} (hi : i < n) (hk : k < n) (hm : m < n) : (m + i) % n = (m + k) % n ↔ i = k := by
  constructor
  · intro h
    rw [mod_two (by omega), mod_two (by omega)] at h
    split at h <;> split at h <;> omega
  · rintro rfl; rfl
theorem tn_start (hm : m < l.length) {i : Nat} (hi : i < l.length) : tn (startL l m) i = tn l ((m + i) % l.length) := by
  have h0 : 0 < l.length := by omega
  unfold tn
  rw [nx_start, startL_length, gx_start hm hi, gy_start hm hi, gx_start hm (Nat.mod_lt _ h0), gy_start hm (Nat.mod_lt _ h0), gx_start hm (Nat.mod_lt _ h0), gy_start hm (Nat.mod_lt _ h0), shift_mod, shift_mod]
  rfl
theorem mt_start (hm : m < l.length) {i k : Nat} (hi : i < l.length) (hk : k < l.length) : mt (startL l m) i k = mt l ((m + i) % l.length) ((m + k) % l.length) := by
  have h0 : 0 < l.length := by omega
  unfold mt
  rw [nx_start, nx_start, gx_start hm hi, gy_start hm hi, gx_start hm hk, gy_start hm hk, gx_start hm (Nat.mod_lt _ h0), gy_start hm (Nat.mod_lt _ h0), gx_start hm (Nat.mod_lt _ h0), gy_start hm (Nat.mod_lt _ h0), shift_mod, shift_mod]
  rfl
theorem askS_start (hm : m < l.length) {i k : Nat} (hi : i < l.length) (hk : k < l.length) : askS (startL l m) i k = askS l ((m + i) % l.length) ((m + k) % l.length) := by
  have h0 : 0 < l.length := by omega
  have b : ∀ a c : Nat, a < l.length → c < l.length → ((m + a) % l.length == (m + c) % l.length) = (a == c) := fun a c ha hc => by
    rw [Bool.eq_iff_iff, beq_iff_eq, beq_iff_eq]
    exact shift_inj ha hc hm
  unfold askS
  rw [startL_length, ← shift_mod, ← shift_mod, b k i hk hi, b ((k + 1) % l.length) i (Nat.mod_lt _ h0) hi, b ((i + 1) % l.length) k (Nat.mod_lt _ h0) hk]
theorem area_start (hm : m < l.length) : areaZ (startL l m) = areaZ l := by
  have h0 : 0 < l.length := by omega
  unfold areaZ
  rw [areaTo_sm, areaTo_sm, startL_length, ← sm_rot (fun i => gx l i * gy l (nx l i) - gy l i * gx l (nx l i)) hm]
  refine sm_congr _ _ _ fun i hi => ?_
  rw [nx_start, gx_start hm hi, gy_start hm hi, gx_start hm (Nat.mod_lt _ h0), gy_start hm (Nat.mod_lt _ h0), shift_mod]
  rfl
theorem mem_start {p : Int × Int} : p ∈ startL l m ↔ p ∈ l := by
  unfold startL
  rw [List.mem_append]
  constructor
  · rintro (h | h)
    · exact List.mem_of_mem_drop h
    · exact List.mem_of_mem_take h
  · intro h
    rw [← List.take_append_drop m l, List.mem_append] at h
    exact h.symm
theorem room_start (hm : m < l.length) (hr : roomB l = true) : roomB (startL l m) = true := by
  obtain ⟨h1, h2, h3, h4, h5⟩ := (roomB_iff l).1 hr
  have h0 : 0 < l.length := by omega
  refine (roomB_iff _).2 ⟨by rw [startL_length]; exact h1, ?_, ?_, ?_, by rw [area_start hm]; exact h5⟩
  · unfold allok at *
    rw [List.all_eq_true] at *
    exact fun p hp => h2 p (mem_start.1 hp)
  · intro i hi
    rw [startL_length] at hi
    rw [tn_start hm hi]
    exact h3 _ (Nat.mod_lt _ h0)
  · intro i k hi hk ha
    rw [startL_length] at hi hk
    rw [askS_start hm hi hk] at ha
    rw [mt_start hm hi hk]
    exact h4 _ _ (Nat.mod_lt _ h0) (Nat.mod_lt _ h0) ha
/-- begun elsewhere and begun again -/
theorem start_start {k : Nat} (hk : k < l.length) : startL (startL l k) ((l.length - k) % l.length) = l := by
  rcases Nat.eq_zero_or_pos k with rfl | h
  · rw [Nat.sub_zero, Nat.mod_self]
    simp [startL]
  · rw [Nat.mod_eq_of_lt (by omega)]
    unfold startL
    have e : (l.drop k).length = l.length - k := by simp
    rw [← e, List.drop_left, List.take_left, List.take_append_drop]
end

/-! ## Turned and moved -/
section
variable {t : Nat} {dx : Int}
theorem trn_turn (a b c : Int × Int) : turnZ (trn t dx a).1 (trn t dx a).2 (trn t dx b).1 (trn t dx b).2 (trn t dx c).1 (trn t dx c).2 = turnZ a.1 a.2 b.1 b.2 c.1 c.2 := by
  unfold trn turnZ
  split
  · grind
  · split <;> grind
theorem trn_on (a b c : Int × Int) : OnZ (trn t dx a) (trn t dx b) (trn t dx c) ↔ OnZ a b c := by
  unfold OnZ
  rw [trn_turn]
  unfold trn
  split
  · constructor <;> (rintro ⟨h1, h2, h3⟩; refine ⟨h1, ?_, ?_⟩ <;> (simp only at *; omega))
  · split
    · constructor <;> (rintro ⟨h1, h2, h3⟩; refine ⟨h1, ?_, ?_⟩ <;> (simp only at *; omega))
    · constructor <;> (rintro ⟨h1, h2, h3⟩; refine ⟨h1, ?_, ?_⟩ <;> (simp only at *; omega))
theorem trn_inj {a b : Int × Int} : trn t dx a = trn t dx b ↔ a = b := by
  constructor
  · intro h
    unfold trn at h
    split at h
    · injection h with h1 h2; exact Prod.ext (by omega) (by omega)
    · split at h
      · injection h with h1 h2; exact Prod.ext (by omega) (by omega)
      · injection h with h1 h2; exact Prod.ext (by omega) (by omega)
  · rintro rfl; rfl

theorem sgn_turn {ax ay bx by_ cx cy ax' ay' bx' by' cx' cy' : Int} (h1 : within 1000000 ax ay) (h2 : within 1000000 bx by_) (h3 : within 1000000 cx cy) (h1' : within 1000000 ax' ay') (h2' : within 1000000 bx' by') (h3' : within 1000000 cx' cy') (h : turnZ ax' ay' bx' by' cx' cy' = turnZ ax ay bx by_ cx cy) : turnW ax' ay' bx' by' cx' cy' = turnW ax ay bx by_ cx cy := by
  rw [turnW_eq h1 h2 h3, turnW_eq h1' h2' h3', h]

/-- a point and its image are points of the map -/
def Both (t : Nat) (dx : Int) (p : Int × Int) : Prop := pok p.1 p.2 = true ∧ pok (trn t dx p).1 (trn t dx p).2 = true
theorem Both.w {p : Int × Int} (h : Both t dx p) : within 1000000 p.1 p.2 ∧ within 1000000 (trn t dx p).1 (trn t dx p).2 := ⟨within_more (within_of_pok h.1) (by omega), within_more (within_of_pok h.2) (by omega)⟩
theorem trn_turnW {a b c : Int × Int} (ha : Both t dx a) (hb : Both t dx b) (hc : Both t dx c) : turnW (trn t dx a).1 (trn t dx a).2 (trn t dx b).1 (trn t dx b).2 (trn t dx c).1 (trn t dx c).2 = turnW a.1 a.2 b.1 b.2 c.1 c.2 :=
  sgn_turn ha.w.1 hb.w.1 hc.w.1 ha.w.2 hb.w.2 hc.w.2 (trn_turn a b c)
theorem trn_onW {a b c : Int × Int} (ha : Both t dx a) (hb : Both t dx b) (hc : Both t dx c) : onW (trn t dx c).1 (trn t dx c).2 (trn t dx a).1 (trn t dx a).2 (trn t dx b).1 (trn t dx b).2 = onW c.1 c.2 a.1 a.2 b.1 b.2 := by
  rw [Bool.eq_iff_iff, onW_iff ha.w.2 hb.w.2 hc.w.2, onW_iff ha.w.1 hb.w.1 hc.w.1]
  exact trn_on a b c
theorem trn_wok {a b : Int × Int} (ha : Both t dx a) (hb : Both t dx b) : wok (trn t dx a).1 (trn t dx a).2 (trn t dx b).1 (trn t dx b).2 = wok a.1 a.2 b.1 b.2 := by
  have e : neB (trn t dx a).1 (trn t dx a).2 (trn t dx b).1 (trn t dx b).2 = neB a.1 a.2 b.1 b.2 := by
    have h : ∀ p q : Int × Int, neB p.1 p.2 q.1 q.2 = decide (p ≠ q) := fun p q => by
      unfold neB
      rw [Bool.eq_iff_iff, Bool.not_eq_true', Bool.and_eq_false_iff, beq_eq_false_iff_ne, beq_eq_false_iff_ne, decide_eq_true_eq]
      constructor
      · rintro (h | h) rfl <;> exact h rfl
      · intro h
        by_cases e1 : p.1 = q.1
        · exact .inr fun e2 => h (Prod.ext e1 e2)
        · exact .inl e1
    rw [h, h, Bool.eq_iff_iff, decide_eq_true_eq, decide_eq_true_eq, ne_eq, ne_eq, trn_inj]
  unfold wok pok2
  rw [e, ha.1, ha.2, hb.1, hb.2]
theorem trn_meet {a b c d : Int × Int} (ha : Both t dx a) (hb : Both t dx b) (hc : Both t dx c) (hd : Both t dx d) : meetV (trn t dx a).1 (trn t dx a).2 (trn t dx b).1 (trn t dx b).2 (trn t dx c).1 (trn t dx c).2 (trn t dx d).1 (trn t dx d).2 = meetV a.1 a.2 b.1 b.2 c.1 c.2 d.1 d.2 := by
  unfold meetV crossB sideB
  rw [trn_wok ha hb, trn_wok hc hd, trn_turnW hc hd ha, trn_turnW hc hd hb, trn_turnW ha hb hc, trn_turnW ha hb hd, trn_onW hc hd ha, trn_onW hc hd hb, trn_onW ha hb hc, trn_onW ha hb hd]

variable {l : List (Int × Int)}
theorem getD_map {i : Nat} (hi : i < l.length) : (l.map (trn t dx)).getD i (0, 0) = trn t dx (gx l i, gy l i) := by
  rw [List.getD_eq_getElem?_getD, List.getElem?_map, List.getElem?_eq_getElem hi]
  have e : l[i] = (gx l i, gy l i) := by
    have e2 : (gx l i, gy l i) = l.getD i (0, 0) := rfl
    rw [e2, List.getD_eq_getElem?_getD, List.getElem?_eq_getElem hi]
    rfl
  rw [e]
  rfl
theorem gx_map {i : Nat} (hi : i < l.length) : gx (l.map (trn t dx)) i = (trn t dx (gx l i, gy l i)).1 := by unfold gx; rw [getD_map hi]; rfl
theorem gy_map {i : Nat} (hi : i < l.length) : gy (l.map (trn t dx)) i = (trn t dx (gx l i, gy l i)).2 := by unfold gy; rw [getD_map hi]; rfl
theorem nx_map {i : Nat} : nx (l.map (trn t dx)) i = nx l i := by unfold nx; rw [List.length_map]
theorem tn_map (hb : ∀ i, i < l.length → Both t dx (gx l i, gy l i)) {i : Nat} (hi : i < l.length) : tn (l.map (trn t dx)) i = tn l i := by
  have h0 : 0 < l.length := by omega
  have h1 : nx l i < l.length := nx_lt hi
  have h2 : (i + 2) % l.length < l.length := Nat.mod_lt _ h0
  unfold tn
  rw [nx_map, List.length_map, gx_map hi, gy_map hi, gx_map h1, gy_map h1, gx_map h2, gy_map h2]
  exact trn_turnW (hb i hi) (hb _ h1) (hb _ h2)
theorem mt_map (hb : ∀ i, i < l.length → Both t dx (gx l i, gy l i)) {i k : Nat} (hi : i < l.length) (hk : k < l.length) : mt (l.map (trn t dx)) i k = mt l i k := by
  have h1 : nx l i < l.length := nx_lt hi
  have h2 : nx l k < l.length := nx_lt hk
  unfold mt
  rw [nx_map, nx_map, gx_map hi, gy_map hi, gx_map h1, gy_map h1, gx_map hk, gy_map hk, gx_map h2, gy_map h2]
  exact trn_meet (hb i hi) (hb _ h1) (hb k hk) (hb _ h2)
theorem askS_map {i k : Nat} : askS (l.map (trn t dx)) i k = askS l i k := by unfold askS; rw [List.length_map]
theorem area_map (h3 : 3 ≤ l.length) : areaZ (l.map (trn t dx)) = areaZ l := by
  have h1 : 1 < l.length := by omega
  unfold areaZ
  rw [areaTo_sm, areaTo_sm, List.length_map]
  have hX := sm_trip (gx l) h1
  have hY := sm_trip (gy l) h1
  have key : ∀ (c : Int) (f : Nat → Int), sm (fun i => f ((i + 1) % l.length) - f i) l.length = 0 → (∀ i, i < l.length → gx (l.map (trn t dx)) i * gy (l.map (trn t dx)) (nx (l.map (trn t dx)) i) - gy (l.map (trn t dx)) i * gx (l.map (trn t dx)) (nx (l.map (trn t dx)) i) = (gx l i * gy l (nx l i) - gy l i * gx l (nx l i)) + c * (f ((i + 1) % l.length) - f i)) → sm (fun i => gx (l.map (trn t dx)) i * gy (l.map (trn t dx)) (nx (l.map (trn t dx)) i) - gy (l.map (trn t dx)) i * gx (l.map (trn t dx)) (nx (l.map (trn t dx)) i)) l.length = sm (fun i => gx l i * gy l (nx l i) - gy l i * gx l (nx l i)) l.length := fun c f hf he => by
    rw [sm_congr _ _ _ he, sm_add (fun i => gx l i * gy l (nx l i) - gy l i * gx l (nx l i)) (fun i => c * (f ((i + 1) % l.length) - f i)), sm_mul, hf]
    omega
  by_cases h : t = 1
  · refine key dx (gx l) hX fun i hi => ?_
    rw [nx_map, gx_map hi, gy_map hi, gx_map (nx_lt hi), gy_map (nx_lt hi)]
    simp only [trn, if_pos h]
    unfold nx
    grind
  · by_cases h2 : t = 2
    · refine key (-dx) (gy l) hY fun i hi => ?_
      rw [nx_map, gx_map hi, gy_map hi, gx_map (nx_lt hi), gy_map (nx_lt hi)]
      simp only [trn, if_neg h, if_pos h2]
      unfold nx
      grind
    · refine key dx (gy l) hY fun i hi => ?_
      rw [nx_map, gx_map hi, gy_map hi, gx_map (nx_lt hi), gy_map (nx_lt hi)]
      simp only [trn, if_neg h, if_neg h2]
      unfold nx
      grind
theorem room_map (hb : ∀ i, i < l.length → Both t dx (gx l i, gy l i)) (hr : roomB l = true) : roomB (l.map (trn t dx)) = true := by
  obtain ⟨h1, h2, h3, h4, h5⟩ := (roomB_iff l).1 hr
  refine (roomB_iff _).2 ⟨by rw [List.length_map]; exact h1, ?_, ?_, ?_, by rw [area_map h1.1]; exact h5⟩
  · unfold allok at *
    rw [List.all_eq_true] at *
    intro p hp
    obtain ⟨q, hq, rfl⟩ := List.mem_map.1 hp
    obtain ⟨i, hi, rfl⟩ := List.getElem_of_mem hq
    have e : l[i] = (gx l i, gy l i) := by
      have e2 : (gx l i, gy l i) = l.getD i (0, 0) := rfl
      rw [e2, List.getD_eq_getElem?_getD, List.getElem?_eq_getElem hi]
      rfl
    rw [e]
    exact (hb i hi).2
  · intro i hi
    rw [List.length_map] at hi
    rw [tn_map hb hi]
    exact h3 i hi
  · intro i k hi hk ha
    rw [List.length_map] at hi hk
    rw [askS_map] at ha
    rw [mt_map hb hi hk]
    exact h4 i k hi hk ha
end

/-! ## What may be drawn is a room -/
theorem shp_room : ∀ s, s < 8 → roomB (shp s) = true := by
  have h : ((List.range 8).all fun s => roomB (shp s)) = true := by decide +kernel
  intro s hs
  exact List.all_eq_true.1 h s (List.mem_range.2 hs)
theorem Reach.room {s j : Nat} {l : List (Int × Int)} (h : Reach s j l) (hs : s < 8) : roomB l = true := by
  induction h with
  | base => exact shp_room s hs
  | stay _ ih => exact ih
  | move _ _ _ _ hr _ => exact hr
theorem both_small {t : Nat} {dx : Int} {p : Int × Int} (hp : (-3 ≤ p.1 ∧ p.1 ≤ 13) ∧ (-3 ≤ p.2 ∧ p.2 ≤ 13)) (hd : -2 ≤ dx ∧ dx ≤ 2) : Both t dx p := by
  unfold Both
  rw [pok_iff, pok_iff]
  unfold trn
  split
  · simp only; omega
  · split <;> (simp only; omega)
/-- what a drawn room is -/
theorem Drawn.facts {L : List (Int × Int)} (h : Drawn L) : roomB L = true ∧ ∀ p, p ∈ L → (-15 ≤ p.1 ∧ p.1 ≤ 15) ∧ (-13 ≤ p.2 ∧ p.2 ≤ 13) := by
  obtain ⟨s, j, t, m, l, dx, hs, hj, hre, ht, hm, hd, rfl⟩ := h
  have hb := hre.bd
  have hb2 : ∀ p, p ∈ startL l m → (-3 ≤ p.1 ∧ p.1 ≤ 13) ∧ (-3 ≤ p.2 ∧ p.2 ≤ 13) := fun p hp => by have := hb p (mem_start.1 hp); omega
  refine ⟨room_map (fun i hi => both_small (hb2 _ (g_mem' hi)) hd) (room_start hm (hre.room hs)), fun p hp => ?_⟩
  obtain ⟨q, hq, rfl⟩ := List.mem_map.1 hp
  have := hb2 q hq
  unfold trn
  split
  · simp only; omega
  · split <;> (simp only; omega)

end Go.Proofs.Ytjccilpjaaiicaa

namespace Go.Proofs.Ytjccilpjaaiicaa
namespace Jor

abbrev P := Int × Int
/-- twice the area of a, b, c, with a sign -/
def tu (a b c : P) : Int := (b.1 - a.1) * (c.2 - a.2) - (b.2 - a.2) * (c.1 - a.1)

theorem pos_of_mul {x k : Int} (hk : 0 < k) (h : 0 < x * k) : 0 < x := by
  rcases Int.lt_or_le 0 x with h1 | h1
  · exact h1
  · have := Int.mul_nonneg (show 0 ≤ -x by omega) (Int.le_of_lt hk)
    rw [Int.neg_mul] at this
    omega
theorem neg_of_mul {x k : Int} (hk : 0 < k) (h : x * k < 0) : x < 0 := by
  have := pos_of_mul (x := -x) hk (by rw [Int.neg_mul]; omega)
  omega
theorem mul_neg' {x k : Int} (hx : x < 0) (hk : 0 < k) : x * k < 0 := by
  have := Int.mul_pos (show 0 < -x by omega) hk
  rw [Int.neg_mul] at this
  omega

/-- the four turns of two ways, and heights -/
theorem aff (p q a b : P) (h : Int) : tu a b q * (p.2 - h) - tu a b p * (q.2 - h) + tu p q b * (a.2 - h) - tu p q a * (b.2 - h) = 0 := by
  unfold tu
  grind
theorem aff0 (p q a b : P) : tu a b q - tu a b p + tu p q b - tu p q a = 0 := by
  unfold tu
  grind
/-- two ways cross, each in the other's open part -/
def Crs (p q a b : P) : Prop := ((tu a b p < 0 ∧ 0 < tu a b q) ∨ (0 < tu a b p ∧ tu a b q < 0)) ∧ ((tu p q a < 0 ∧ 0 < tu p q b) ∨ (0 < tu p q a ∧ tu p q b < 0))

/-- a below p, b between p and q -/
theorem low_mid {p q a b : P} (h1 : a.2 < p.2) (h2 : p.2 < b.2) (h3 : b.2 < q.2) (n1 : tu a b p ≠ 0) (n4 : tu p q b ≠ 0) (hx : ¬ Crs p q a b) : 0 < tu a b p ↔ tu p q b < 0 := by
  have e1 := aff p q a b p.2
  have e2 := aff p q a b q.2
  have d1 : 0 < q.2 - p.2 := by omega
  have d2 : 0 < p.2 - a.2 := by omega
  have d3 : 0 < b.2 - p.2 := by omega
  have d4 : 0 < q.2 - b.2 := by omega
  have d5 : 0 < q.2 - a.2 := by omega
  have f1 : tu p q a * (b.2 - p.2) = - (tu a b p * (q.2 - p.2)) - tu p q b * (p.2 - a.2) := by grind
  have f2 : tu a b q * (q.2 - p.2) = tu p q a * (q.2 - b.2) - tu p q b * (q.2 - a.2) := by grind
  constructor
  · intro t1
    rcases Int.lt_or_gt_of_ne n4 with h | h
    · exact h
    · exfalso
      have g1 := Int.mul_pos t1 d1
      have g2 := Int.mul_pos h d2
      have t3 : tu p q a < 0 := neg_of_mul d3 (by omega)
      have g3 := mul_neg' t3 d4
      have g4 := Int.mul_pos h d5
      have t2 : tu a b q < 0 := neg_of_mul d1 (by omega)
      exact hx ⟨.inr ⟨t1, t2⟩, .inl ⟨t3, h⟩⟩
  · intro h
    rcases Int.lt_or_gt_of_ne n1 with t1 | t1
    · exfalso
      have g1 := mul_neg' t1 d1
      have g2 := mul_neg' h d2
      have t3 : 0 < tu p q a := pos_of_mul d3 (by omega)
      have g3 := Int.mul_pos t3 d4
      have g4 := mul_neg' h d5
      have t2 : 0 < tu a b q := pos_of_mul d1 (by omega)
      exact hx ⟨.inl ⟨t1, t2⟩, .inr ⟨t3, h⟩⟩
    · exact t1
/-- a below p, b above q -/
theorem low_high {p q a b : P} (h0 : p.2 < q.2) (h1 : a.2 < p.2) (h2 : q.2 < b.2) (n1 : tu a b p ≠ 0) (n2 : tu a b q ≠ 0) (hx : ¬ Crs p q a b) : 0 < tu a b p ↔ 0 < tu a b q := by
  have e1 := aff p q a b a.2
  have e2 := aff p q a b b.2
  have d1 : 0 < p.2 - a.2 := by omega
  have d2 : 0 < q.2 - a.2 := by omega
  have d3 : 0 < b.2 - a.2 := by omega
  have d4 : 0 < b.2 - p.2 := by omega
  have d5 : 0 < b.2 - q.2 := by omega
  have f1 : tu p q a * (b.2 - a.2) = tu a b q * (p.2 - a.2) - tu a b p * (q.2 - a.2) := by grind
  have f2 : tu p q b * (b.2 - a.2) = tu a b p * (b.2 - q.2) - tu a b q * (b.2 - p.2) := by grind
  constructor
  · intro t1
    rcases Int.lt_or_gt_of_ne n2 with t2 | t2
    · exfalso
      have g1 := mul_neg' t2 d1
      have g2 := Int.mul_pos t1 d2
      have g3 := Int.mul_pos t1 d5
      have g4 := mul_neg' t2 d4
      exact hx ⟨.inr ⟨t1, t2⟩, .inl ⟨neg_of_mul d3 (by omega), pos_of_mul d3 (by omega)⟩⟩
    · exact t2
  · intro t2
    rcases Int.lt_or_gt_of_ne n1 with t1 | t1
    · exfalso
      have g1 := Int.mul_pos t2 d1
      have g2 := mul_neg' t1 d2
      have g3 := mul_neg' t1 d5
      have g4 := Int.mul_pos t2 d4
      exact hx ⟨.inl ⟨t1, t2⟩, .inr ⟨pos_of_mul d3 (by omega), neg_of_mul d3 (by omega)⟩⟩
    · exact t1
theorem crs_comm {p q a b : P} : Crs p q a b ↔ Crs a b p q := by
  unfold Crs
  constructor <;> (rintro ⟨h1, h2⟩; exact ⟨h2, h1⟩)
theorem tu_swap (a b c : P) : tu b a c = - tu a b c := by unfold tu; grind
theorem crs_swap {p q a b : P} : Crs p q a b ↔ Crs p q b a := by
  unfold Crs
  rw [tu_swap a b p, tu_swap a b q]
  constructor <;> (rintro ⟨h1, h2⟩; exact ⟨by omega, by omega⟩)

/-- the ray from p to the right meets the wall ab (no end of the wall at p's height) -/
def cr (p a b : P) : Bool := decide (a.2 < p.2 ∧ p.2 < b.2 ∧ 0 < tu a b p) || decide (b.2 < p.2 ∧ p.2 < a.2 ∧ tu a b p < 0)
/-- x lies in the strip between p and q, right of pq -/
def dl (p q x : P) : Bool := decide (p.2 < x.2 ∧ x.2 < q.2 ∧ tu p q x < 0)
/-- p is not on the wall ab -/
def Off (p a b : P) : Prop := ((a.2 < p.2 ∧ p.2 < b.2) ∨ (b.2 < p.2 ∧ p.2 < a.2)) → tu a b p ≠ 0

theorem cr_swap (p a b : P) : cr p a b = cr p b a := by
  unfold cr
  rw [tu_swap a b p, Bool.or_comm]
  congr 1
  · congr 1
    rw [eq_iff_iff]
    constructor <;> (rintro ⟨h1, h2, h3⟩; exact ⟨h1, h2, by omega⟩)
  · congr 1
    rw [eq_iff_iff]
    constructor <;> (rintro ⟨h1, h2, h3⟩; exact ⟨h1, h2, by omega⟩)

theorem cr_up {p a b : P} (h : a.2 < b.2) : cr p a b = decide (a.2 < p.2 ∧ p.2 < b.2 ∧ 0 < tu a b p) := by
  unfold cr
  rw [show decide (b.2 < p.2 ∧ p.2 < a.2 ∧ tu a b p < 0) = false by rw [decide_eq_false_iff_not]; omega, Bool.or_false]
/-- p between a and b, q above -/
theorem mid_high {p q a b : P} (h1 : p.2 < a.2) (h2 : a.2 < q.2) (h3 : q.2 < b.2) (n2 : tu a b q ≠ 0) (n3 : tu p q a ≠ 0) (hx : ¬ Crs p q a b) : 0 < tu a b q ↔ tu p q a < 0 := by
  have e1 := aff p q a b p.2
  have e2 := aff p q a b q.2
  have d1 : 0 < q.2 - p.2 := by omega
  have d2 : 0 < q.2 - a.2 := by omega
  have d3 : 0 < b.2 - q.2 := by omega
  have d4 : 0 < a.2 - p.2 := by omega
  have d5 : 0 < b.2 - p.2 := by omega
  have f1 : tu p q b * (q.2 - a.2) = - (tu a b q * (q.2 - p.2)) - tu p q a * (b.2 - q.2) := by grind
  have f2 : tu a b p * (q.2 - p.2) = tu p q b * (a.2 - p.2) - tu p q a * (b.2 - p.2) := by grind
  constructor
  · intro t2
    rcases Int.lt_or_gt_of_ne n3 with h | h
    · exact h
    · exfalso
      have g1 := Int.mul_pos t2 d1
      have g2 := Int.mul_pos h d3
      have t4 : tu p q b < 0 := neg_of_mul d2 (by omega)
      have g3 := mul_neg' t4 d4
      have g4 := Int.mul_pos h d5
      have t1 : tu a b p < 0 := neg_of_mul d1 (by omega)
      exact hx ⟨.inl ⟨t1, t2⟩, .inr ⟨h, t4⟩⟩
  · intro h
    rcases Int.lt_or_gt_of_ne n2 with t2 | t2
    · exfalso
      have g1 := mul_neg' t2 d1
      have g2 := mul_neg' h d3
      have t4 : 0 < tu p q b := pos_of_mul d2 (by omega)
      have g3 := Int.mul_pos t4 d4
      have g4 := mul_neg' h d5
      have t1 : 0 < tu a b p := pos_of_mul d1 (by omega)
      exact hx ⟨.inr ⟨t1, t2⟩, .inl ⟨h, t4⟩⟩
    · exact t2
/-- both ends between p and q -/
theorem mid_mid {p q a b : P} (h0 : a.2 < b.2) (h1 : p.2 < a.2) (h2 : b.2 < q.2) (n3 : tu p q a ≠ 0) (n4 : tu p q b ≠ 0) (hx : ¬ Crs p q a b) : tu p q a < 0 ↔ tu p q b < 0 := by
  have h := low_high (p := a) (q := b) (a := p) (b := q) h0 h1 h2 n3 n4 (fun h => hx (crs_comm.2 h))
  constructor
  · intro t
    rcases Int.lt_or_gt_of_ne n4 with g | g
    · exact g
    · have := h.2 g; omega
  · intro t
    rcases Int.lt_or_gt_of_ne n3 with g | g
    · exact g
    · have := h.1 g; omega

/-- heights of the four points differ -/
def Gen (p q a b : P) : Prop := p.2 ≠ q.2 ∧ a.2 ≠ b.2 ∧ p.2 ≠ a.2 ∧ p.2 ≠ b.2 ∧ q.2 ≠ a.2 ∧ q.2 ≠ b.2

theorem strip_up {p q a b : P} (hpq : p.2 < q.2) (hab : a.2 < b.2) (hg : Gen p q a b) (o1 : Off p a b) (o2 : Off q a b) (o3 : Off a p q) (o4 : Off b p q) (hx : ¬ Crs p q a b) : (cr p a b ^^ cr q a b) = (dl p q a ^^ dl p q b) := by
  obtain ⟨_, _, g1, g2, g3, g4⟩ := hg
  unfold Off at o1 o2 o3 o4
  rw [cr_up hab, cr_up hab]
  unfold dl
  rcases Int.lt_or_gt_of_ne g1 with c1 | c1
  · -- p below a
    rcases Int.lt_or_gt_of_ne g3 with c3 | c3
    · -- q below a
      simp [show ¬ a.2 < p.2 by omega, show ¬ a.2 < q.2 by omega, show ¬ b.2 < q.2 by omega]
    · rcases Int.lt_or_gt_of_ne g4 with c4 | c4
      · have h := mid_high c1 c3 c4 (o2 (by omega)) (o3 (by omega)) hx
        simp [show ¬ a.2 < p.2 by omega, show ¬ b.2 < q.2 by omega, c1, c3, c4, h]
      · have h := mid_mid hab c1 c4 (o3 (by omega)) (o4 (by omega)) hx
        simp [show ¬ a.2 < p.2 by omega, show ¬ q.2 < b.2 by omega, show p.2 < b.2 by omega, c1, c3, c4, h]
  · rcases Int.lt_or_gt_of_ne g2 with c2 | c2
    · rcases Int.lt_or_gt_of_ne g4 with c4 | c4
      · have h := low_high hpq c1 c4 (o1 (by omega)) (o2 (by omega)) hx
        simp [show ¬ p.2 < a.2 by omega, show ¬ b.2 < q.2 by omega, show a.2 < q.2 by omega, c1, c2, c4, h]
      · have h := low_mid c1 c2 c4 (o1 (by omega)) (o4 (by omega)) hx
        simp [show ¬ p.2 < a.2 by omega, show ¬ q.2 < b.2 by omega, c1, c2, c4, h]
    · simp [show ¬ p.2 < a.2 by omega, show ¬ p.2 < b.2 by omega, show ¬ q.2 < b.2 by omega]

theorem Gen.swap {p q a b : P} (h : Gen p q a b) : Gen p q b a := by
  obtain ⟨h1, h2, h3, h4, h5, h6⟩ := h
  exact ⟨h1, h2.symm, h4, h3, h6, h5⟩
theorem Off.swap {p a b : P} (h : Off p a b) : Off p b a := fun hh => by
  rw [tu_swap]
  have := h (by omega)
  omega
/-- the way from p to q meets no wall: the ray's walls change by what lies in the strip -/
theorem strip {p q a b : P} (hpq : p.2 < q.2) (hg : Gen p q a b) (o1 : Off p a b) (o2 : Off q a b) (o3 : Off a p q) (o4 : Off b p q) (hx : ¬ Crs p q a b) : (cr p a b ^^ cr q a b) = (dl p q a ^^ dl p q b) := by
  rcases Int.lt_or_gt_of_ne hg.2.1 with h | h
  · exact strip_up hpq h hg o1 o2 o3 o4 hx
  · rw [cr_swap p, cr_swap q, Bool.xor_comm (dl p q a)]
    exact strip_up hpq h hg.swap o1.swap o2.swap o4 o3 (fun h => hx (crs_swap.2 h))

end Jor
end Go.Proofs.Ytjccilpjaaiicaa

namespace Go.Proofs.Ytjccilpjaaiicaa
namespace Jor

/-! ## Sums of truth values round a polygon -/
def xs (f : Nat → Bool) : Nat → Bool
  | 0 => false
  | k + 1 => xs f k ^^ f k
theorem xs_congr {f g : Nat → Bool} : ∀ n, (∀ i, i < n → f i = g i) → xs f n = xs g n
  | 0, _ => rfl
  | n + 1, h => by rw [xs, xs, xs_congr n (fun i hi => h i (by omega)), h n (by omega)]
theorem xs_xor (f g : Nat → Bool) : ∀ n, xs (fun i => f i ^^ g i) n = (xs f n ^^ xs g n)
  | 0 => rfl
  | n + 1 => by
    rw [xs, xs, xs, xs_xor f g n]
    cases xs f n <;> cases xs g n <;> cases f n <;> cases g n <;> rfl
theorem xs_false : ∀ n, xs (fun _ => false) n = false
  | 0 => rfl
  | n + 1 => by rw [xs, xs_false n]; rfl
theorem xs_one {f : Nat → Bool} {d : Nat} : ∀ n, d < n → (∀ i, i < n → i ≠ d → f i = false) → xs f n = f d
  | n + 1, hd, h => by
    rw [xs]
    by_cases e : d = n
    · subst e
      have h0 : xs f d = false := by
        rw [xs_congr d (g := fun _ => false) (fun i hi => h i (by omega) (by omega)), xs_false]
      rw [h0, Bool.false_xor]
    · rw [xs_one n (by omega) (fun i hi hne => h i (by omega) hne), h n (by omega) (by omega), Bool.xor_false]
theorem xs_two {f : Nat → Bool} {d e n : Nat} (hd : d < n) (he : e < n) (hne : d ≠ e) (h : ∀ i, i < n → i ≠ d → i ≠ e → f i = false) : xs f n = (f d ^^ f e) := by
  have h1 : xs f n = (xs (fun i => if i = d then f d else false) n ^^ xs (fun i => if i = d then false else f i) n) := by
    rw [← xs_xor]
    refine xs_congr n fun i hi => ?_
    by_cases e1 : i = d
    · subst e1; simp
    · simp [e1]
  rw [h1, xs_one (f := fun i => if i = d then f d else false) n hd (fun i _ hi => by simp [hi]), xs_one (f := fun i => if i = d then false else f i) (d := e) n he (fun i hi hie => by
    by_cases e1 : i = d
    · simp [e1]
    · simp [e1, h i hi e1 hie])]
  simp [Ne.symm hne]
theorem xs_split (f : Nat → Bool) (a : Nat) : ∀ b, xs f (a + b) = (xs f a ^^ xs (fun i => f (a + i)) b)
  | 0 => by simp [xs]
  | b + 1 => by
    rw [← Nat.add_assoc, xs, xs_split f a b, xs]
    cases xs f a <;> cases xs (fun i => f (a + i)) b <;> cases f (a + b) <;> rfl
/-- the next corner, the one ahead -/
def nx (n i : Nat) : Nat := (i + 1) % n
def pv (n i : Nat) : Nat := (i + n - 1) % n
theorem xs_nx (f : Nat → Bool) {n : Nat} (hn : 0 < n) : xs (fun i => f (nx n i)) n = xs f n := by
  obtain ⟨m, rfl⟩ : ∃ m, n = m + 1 := ⟨n - 1, by omega⟩
  rw [xs]
  have h1 : xs (fun i => f (nx (m + 1) i)) m = xs (fun i => f (i + 1)) m := xs_congr m fun i hi => by
    unfold nx
    rw [Nat.mod_eq_of_lt (by omega)]
  have h2 := xs_split f 1 m
  have h3 : xs (fun i => f (1 + i)) m = xs (fun i => f (i + 1)) m := xs_congr m fun i _ => by rw [Nat.add_comm]
  have h4 : nx (m + 1) m = 0 := by unfold nx; rw [Nat.mod_self]
  rw [Nat.add_comm 1 m] at h2
  rw [h1, h2, h3, h4]
  show _ = ((false ^^ f 0) ^^ xs (fun i => f (i + 1)) m)
  cases f 0 <;> cases xs (fun i => f (i + 1)) m <;> rfl
/-- a round trip changes nothing -/
theorem xs_trip (f : Nat → Bool) {n : Nat} (hn : 0 < n) : xs (fun i => f i ^^ f (nx n i)) n = false := by
  rw [xs_xor, xs_nx f hn]
  cases xs f n <;> rfl
section
variable {n i k : Nat}
theorem nx_lt (hn : 0 < n) : nx n i < n := Nat.mod_lt _ hn
theorem pv_lt (hn : 0 < n) : pv n i < n := Nat.mod_lt _ hn
theorem nx_val (hi : i < n) : nx n i = if i + 1 = n then 0 else i + 1 := by
  unfold nx
  split
  · rename_i h; rw [h, Nat.mod_self]
  · rw [Nat.mod_eq_of_lt (by omega)]
theorem pv_val (hi : i < n) : pv n i = if i = 0 then n - 1 else i - 1 := by
  unfold pv
  split
  · rename_i h; rw [Nat.mod_eq_of_lt (by omega)]; omega
  · rw [show i + n - 1 = i - 1 + n by omega, Nat.add_mod_right, Nat.mod_eq_of_lt (by omega)]
theorem nx_pv (hi : i < n) : nx n (pv n i) = i := by
  have h := pv_lt (n := n) (i := i) (by omega)
  rw [nx_val h, pv_val hi]
  split <;> split <;> omega
theorem pv_nx (hi : i < n) : pv n (nx n i) = i := by
  have h := nx_lt (n := n) (i := i) (by omega)
  rw [pv_val h, nx_val hi]
  split <;> split <;> omega
theorem nx_inj (hi : i < n) (hk : k < n) : nx n i = nx n k ↔ i = k := by
  constructor
  · intro h
    have := congrArg (pv n) h
    rwa [pv_nx hi, pv_nx hk] at this
  · rintro rfl; rfl
theorem nx_ne (h2 : 2 ≤ n) (hi : i < n) : nx n i ≠ i := by
  rw [nx_val hi]
  split <;> omega
theorem pv_ne (h2 : 2 ≤ n) (hi : i < n) : pv n i ≠ i := by
  rw [pv_val hi]
  split <;> omega
theorem pv_ne_nx (h3 : 3 ≤ n) (hi : i < n) : pv n i ≠ nx n i := by
  rw [pv_val hi, nx_val hi]
  split <;> split <;> omega
end

/-- a polygon whose corners lie at different heights and whose walls touch at their ends alone -/
structure Simple (v : Nat → P) (n : Nat) : Prop where
  h3 : 3 ≤ n
  hts : ∀ i k, i < n → k < n → i ≠ k → (v i).2 ≠ (v k).2
  off : ∀ i k, i < n → k < n → k ≠ i → k ≠ nx n i → Off (v k) (v i) (v (nx n i))
  crs : ∀ i k, i < n → k < n → ¬ Crs (v i) (v (nx n i)) (v k) (v (nx n k))

/-- whether an odd number of walls lies right of p -/
def par (v : Nat → P) (n : Nat) (p : P) : Bool := xs (fun i => cr p (v i) (v (nx n i))) n

theorem cr_self (a b : P) : cr a a b = false := by
  unfold cr
  simp
theorem cr_self' (a b : P) : cr b a b = false := by rw [cr_swap]; exact cr_self b a
theorem dl_fst (p q : P) : dl p q p = false := by unfold dl; simp
theorem dl_snd (p q : P) : dl p q q = false := by unfold dl; simp

/-- from one corner to the next: what turns is local -/
theorem par_step {v : Nat → P} {n : Nat} (hs : Simple v n) {e : Nat} (he : e < n) (x y : P) (hxy : (x = v e ∧ y = v (nx n e)) ∨ (x = v (nx n e) ∧ y = v e)) (hlt : x.2 < y.2) :
    (par v n x ^^ par v n y) = ((cr (v (nx n e)) (v (pv n e)) (v e) ^^ dl x y (v (pv n e))) ^^ (cr (v e) (v (nx n e)) (v (nx n (nx n e))) ^^ dl x y (v (nx n (nx n e))))) := by
  have h3 := hs.h3
  have h0 : 0 < n := by omega
  have hn := nx_lt (n := n) (i := e) h0
  have hp := pv_lt (n := n) (i := e) h0
  have hnn := nx_lt (n := n) (i := nx n e) h0
  have key : xs (fun i => (cr x (v i) (v (nx n i)) ^^ cr y (v i) (v (nx n i))) ^^ (dl x y (v i) ^^ dl x y (v (nx n i)))) n = (((cr x (v (pv n e)) (v e) ^^ cr y (v (pv n e)) (v e)) ^^ (dl x y (v (pv n e)) ^^ dl x y (v e))) ^^ ((cr x (v (nx n e)) (v (nx n (nx n e))) ^^ cr y (v (nx n e)) (v (nx n (nx n e)))) ^^ (dl x y (v (nx n e)) ^^ dl x y (v (nx n (nx n e)))))) := by
    rw [xs_two hp hn (pv_ne_nx h3 he) ?_, nx_pv he]
    intro i hi h1 h2
    by_cases e1 : i = e
    · subst e1
      rcases hxy with ⟨rfl, rfl⟩ | ⟨rfl, rfl⟩ <;> simp [cr_self, cr_self', dl_fst, dl_snd]
    · have hni := nx_lt (n := n) (i := i) h0
      have a1 : nx n i ≠ e := fun h => h1 (by rw [← pv_nx hi, h])
      have a2 : nx n i ≠ nx n e := fun h => e1 ((nx_inj hi he).1 h)
      have hg : Gen x y (v i) (v (nx n i)) := by
        have g1 := hs.hts e (nx n e) he hn (Ne.symm (nx_ne (by omega) he))
        have g2 := hs.hts i (nx n i) hi hni (Ne.symm (nx_ne (by omega) hi))
        have g3 := hs.hts e i he hi (Ne.symm e1)
        have g4 := hs.hts e (nx n i) he hni (Ne.symm a1)
        have g5 := hs.hts (nx n e) i hn hi (Ne.symm h2)
        have g6 := hs.hts (nx n e) (nx n i) hn hni (Ne.symm a2)
        rcases hxy with ⟨rfl, rfl⟩ | ⟨rfl, rfl⟩
        · exact ⟨g1, g2, g3, g4, g5, g6⟩
        · exact ⟨g1.symm, g2, g5, g6, g3, g4⟩
      have o1 := hs.off i e hi he (Ne.symm e1) (Ne.symm a1)
      have o2 := hs.off i (nx n e) hi hn (Ne.symm h2) (Ne.symm a2)
      have o3 := hs.off e i he hi e1 h2
      have o4 := hs.off e (nx n i) he hni a1 a2
      have hx := hs.crs e i he hi
      have hstrip : (cr x (v i) (v (nx n i)) ^^ cr y (v i) (v (nx n i))) = (dl x y (v i) ^^ dl x y (v (nx n i))) := by
        rcases hxy with ⟨rfl, rfl⟩ | ⟨rfl, rfl⟩
        · exact strip hlt hg o1 o2 o3 o4 hx
        · exact strip hlt hg o2 o1 o3.swap o4.swap (fun h => hx (crs_comm.1 (crs_swap.1 (crs_comm.1 h))))
      rw [hstrip, Bool.xor_self]
  rw [xs_xor, xs_xor, xs_trip (fun i => dl x y (v i)) h0, Bool.xor_false] at key
  unfold par
  rw [key]
  rcases hxy with ⟨rfl, rfl⟩ | ⟨rfl, rfl⟩
  · simp [cr_self, cr_self', dl_fst, dl_snd]
  · simp [cr_self, cr_self', dl_fst, dl_snd]

end Jor
end Go.Proofs.Ytjccilpjaaiicaa

namespace Go.Proofs.Ytjccilpjaaiicaa
namespace Jor

/-- the ray from p to the right meets the wall ab, with its sign: 1 for a wall that goes up, -1 for one that goes down -/
def cs (p a b : P) : Int := if a.2 < p.2 ∧ p.2 < b.2 ∧ 0 < tu a b p then 1 else if b.2 < p.2 ∧ p.2 < a.2 ∧ tu a b p < 0 then -1 else 0
/-- x lies in the strip between p and q, right of pq -/
def ds (p q x : P) : Int := if p.2 < x.2 ∧ x.2 < q.2 ∧ tu p q x < 0 then 1 else 0

theorem cs_swap (p a b : P) : cs p b a = - cs p a b := by
  unfold cs
  rw [tu_swap a b p]
  (repeat' split) <;> omega
theorem cs_up {p a b : P} (h : a.2 < b.2) : cs p a b = if a.2 < p.2 ∧ p.2 < b.2 ∧ 0 < tu a b p then 1 else 0 := by
  unfold cs
  rw [if_neg (c := b.2 < p.2 ∧ p.2 < a.2 ∧ tu a b p < 0) (by omega)]

theorem stripS_up {p q a b : P} (hpq : p.2 < q.2) (hab : a.2 < b.2) (hg : Gen p q a b) (o1 : Off p a b) (o2 : Off q a b) (o3 : Off a p q) (o4 : Off b p q) (hx : ¬ Crs p q a b) : cs p a b - cs q a b = ds p q b - ds p q a := by
  obtain ⟨_, _, g1, g2, g3, g4⟩ := hg
  unfold Off at o1 o2 o3 o4
  rw [cs_up hab, cs_up hab]
  unfold ds
  rcases Int.lt_or_gt_of_ne g1 with c1 | c1
  · -- p below a
    rcases Int.lt_or_gt_of_ne g3 with c3 | c3
    · -- q below a
      simp [show ¬ a.2 < p.2 by omega, show ¬ a.2 < q.2 by omega, show ¬ b.2 < q.2 by omega]
    · rcases Int.lt_or_gt_of_ne g4 with c4 | c4
      · have h := mid_high c1 c3 c4 (o2 (by omega)) (o3 (by omega)) hx
        simp [show ¬ a.2 < p.2 by omega, show ¬ b.2 < q.2 by omega, c1, c3, c4, h]
      · have h := mid_mid hab c1 c4 (o3 (by omega)) (o4 (by omega)) hx
        simp [show ¬ a.2 < p.2 by omega, show ¬ q.2 < b.2 by omega, show p.2 < b.2 by omega, c1, c3, c4, h]
  · rcases Int.lt_or_gt_of_ne g2 with c2 | c2
    · rcases Int.lt_or_gt_of_ne g4 with c4 | c4
      · have h := low_high hpq c1 c4 (o1 (by omega)) (o2 (by omega)) hx
        simp [show ¬ p.2 < a.2 by omega, show ¬ b.2 < q.2 by omega, show a.2 < q.2 by omega, c1, c2, c4, h]
      · have h := low_mid c1 c2 c4 (o1 (by omega)) (o4 (by omega)) hx
        simp [show ¬ p.2 < a.2 by omega, show ¬ q.2 < b.2 by omega, c1, c2, c4, h]
    · simp [show ¬ p.2 < a.2 by omega, show ¬ p.2 < b.2 by omega, show ¬ q.2 < b.2 by omega]
/-- the way from p to q meets no wall: the signed crossings change by what lies in the strip -/
theorem stripS {p q a b : P} (hpq : p.2 < q.2) (hg : Gen p q a b) (o1 : Off p a b) (o2 : Off q a b) (o3 : Off a p q) (o4 : Off b p q) (hx : ¬ Crs p q a b) : cs p a b - cs q a b = ds p q b - ds p q a := by
  rcases Int.lt_or_gt_of_ne hg.2.1 with h | h
  · exact stripS_up hpq h hg o1 o2 o3 o4 hx
  · have h2 := stripS_up hpq h hg.swap o1.swap o2.swap o4 o3 (fun h => hx (crs_swap.2 h))
    rw [cs_swap p, cs_swap q] at h2
    omega

theorem sm_zero : ∀ n, sm (fun _ => 0) n = 0
  | 0 => rfl
  | n + 1 => by rw [sm, sm_zero n]; rfl
theorem sm_one {f : Nat → Int} {d : Nat} : ∀ n, d < n → (∀ i, i < n → i ≠ d → f i = 0) → sm f n = f d
  | n + 1, hd, h => by
    rw [sm]
    by_cases e : d = n
    · subst e
      have h0 : sm f d = 0 := by
        rw [sm_congr f (fun _ => 0) d (fun i hi => h i (by omega) (by omega)), sm_zero]
      rw [h0, Int.zero_add]
    · rw [sm_one n (by omega) (fun i hi hne => h i (by omega) hne), h n (by omega) (by omega), Int.add_zero]
theorem sm_two {f : Nat → Int} {d e n : Nat} (hd : d < n) (he : e < n) (hne : d ≠ e) (h : ∀ i, i < n → i ≠ d → i ≠ e → f i = 0) : sm f n = f d + f e := by
  have h1 : sm f n = sm (fun i => if i = d then f d else 0) n + sm (fun i => if i = d then 0 else f i) n := by
    rw [← sm_add]
    refine sm_congr _ _ n fun i hi => ?_
    by_cases e1 : i = d
    · subst e1; simp
    · simp [e1]
  rw [h1, sm_one (f := fun i => if i = d then f d else 0) n hd (fun i _ hi => by simp [hi]), sm_one (f := fun i => if i = d then 0 else f i) (d := e) n he (fun i hi hie => by
    by_cases e1 : i = d
    · simp [e1]
    · simp [e1, h i hi e1 hie])]
  simp [Ne.symm hne]
theorem sm_sub (f g : Nat → Int) : ∀ n, sm (fun i => f i - g i) n = sm f n - sm g n
  | 0 => rfl
  | n + 1 => by rw [sm, sm, sm, sm_sub f g n]; omega

/-- the walls right of p, with their signs -/
def wn (v : Nat → P) (n : Nat) (p : P) : Int := sm (fun i => cs p (v i) (v (nx n i))) n

theorem wn_way (v : Nat → P) {n : Nat} (hn : 1 < n) (p q : P) : wn v n p - wn v n q = sm (fun i => (cs p (v i) (v (nx n i)) - cs q (v i) (v (nx n i))) - (ds p q (v (nx n i)) - ds p q (v i))) n := by
  have h := sm_trip (fun i => ds p q (v i)) hn
  rw [sm_sub, sm_sub]
  unfold wn
  have h2 : sm (fun i => ds p q (v (nx n i)) - ds p q (v i)) n = 0 := h
  rw [h2]
  omega
theorem cs_self (a b : P) : cs a a b = 0 := by unfold cs; simp
theorem cs_self' (a b : P) : cs b a b = 0 := by unfold cs; simp
theorem ds_fst (p q : P) : ds p q p = 0 := by unfold ds; simp
theorem ds_snd (p q : P) : ds p q q = 0 := by unfold ds; simp
/-- a point between the ends of a wall -/
def On (z a b : P) : Prop := ((a.2 < z.2 ∧ z.2 < b.2) ∨ (b.2 < z.2 ∧ z.2 < a.2)) ∧ tu a b z = 0
theorem cs_on {z a b : P} (h : On z a b) : cs z a b = 0 := by
  unfold cs
  rw [h.2]
  simp

end Jor
end Go.Proofs.Ytjccilpjaaiicaa

namespace Go.Proofs.Ytjccilpjaaiicaa
namespace Jor

/-- from one corner to the next: what the sum does is local -/
theorem wn_step {v : Nat → P} {n : Nat} (hs : Simple v n) {e : Nat} (he : e < n) (x y : P) (hxy : (x = v e ∧ y = v (nx n e)) ∨ (x = v (nx n e) ∧ y = v e)) (hlt : x.2 < y.2) :
    wn v n x - wn v n y = (((cs x (v (pv n e)) (v e) - cs y (v (pv n e)) (v e)) + ds x y (v (pv n e))) + ((cs x (v (nx n e)) (v (nx n (nx n e))) - cs y (v (nx n e)) (v (nx n (nx n e)))) - ds x y (v (nx n (nx n e))))) := by
  have h3 := hs.h3
  have h0 : 0 < n := by omega
  have hn := nx_lt (n := n) (i := e) h0
  have hp := pv_lt (n := n) (i := e) h0
  have hnn := nx_lt (n := n) (i := nx n e) h0
  rw [wn_way v (by omega) x y, sm_two hp hn (pv_ne_nx h3 he) ?_, nx_pv he]
  · rcases hxy with ⟨rfl, rfl⟩ | ⟨rfl, rfl⟩ <;> simp only [ds_fst, ds_snd] <;> omega
  · intro i hi h1 h2
    by_cases e1 : i = e
    · subst e1
      rcases hxy with ⟨rfl, rfl⟩ | ⟨rfl, rfl⟩ <;> simp [cs_self, cs_self', ds_fst, ds_snd]
    · have hni := nx_lt (n := n) (i := i) h0
      have a1 : nx n i ≠ e := fun h => h1 (by rw [← pv_nx hi, h])
      have a2 : nx n i ≠ nx n e := fun h => e1 ((nx_inj hi he).1 h)
      have hg : Gen x y (v i) (v (nx n i)) := by
        have g1 := hs.hts e (nx n e) he hn (Ne.symm (nx_ne (by omega) he))
        have g2 := hs.hts i (nx n i) hi hni (Ne.symm (nx_ne (by omega) hi))
        have g3 := hs.hts e i he hi (Ne.symm e1)
        have g4 := hs.hts e (nx n i) he hni (Ne.symm a1)
        have g5 := hs.hts (nx n e) i hn hi (Ne.symm h2)
        have g6 := hs.hts (nx n e) (nx n i) hn hni (Ne.symm a2)
        rcases hxy with ⟨rfl, rfl⟩ | ⟨rfl, rfl⟩
        · exact ⟨g1, g2, g3, g4, g5, g6⟩
        · exact ⟨g1.symm, g2, g5, g6, g3, g4⟩
      have o1 := hs.off i e hi he (Ne.symm e1) (Ne.symm a1)
      have o2 := hs.off i (nx n e) hi hn (Ne.symm h2) (Ne.symm a2)
      have o3 := hs.off e i he hi e1 h2
      have o4 := hs.off e (nx n i) he hni a1 a2
      have hx := hs.crs e i he hi
      have hstrip : cs x (v i) (v (nx n i)) - cs y (v i) (v (nx n i)) = ds x y (v (nx n i)) - ds x y (v i) := by
        rcases hxy with ⟨rfl, rfl⟩ | ⟨rfl, rfl⟩
        · exact stripS hlt hg o1 o2 o3 o4 hx
        · exact stripS hlt hg o2 o1 o3.swap o4.swap (fun h => hx (crs_comm.1 (crs_swap.1 (crs_comm.1 h))))
      rw [hstrip, Int.sub_self]

/-- what the sum just past the corner b differs by from the sum at the corner, on the way from b to c, a being the corner ahead -/
def lo (a b c : P) : Int :=
  if b.2 < c.2 then (if b.2 < a.2 ∧ tu b c a < 0 then 1 else 0) else (if a.2 < b.2 ∧ tu c b a < 0 then 1 else 0)

theorem tu_rot (a b c : P) : tu b c a = tu a b c := by unfold tu; grind
theorem tu_flip (a b c : P) : tu a c b = - tu a b c := by unfold tu; grind

/-- up from b to c, the wall ab behind -/
theorem lo_up {a b c : P} (h : b.2 < c.2) (hac : a.2 ≠ c.2) : cs b a b - cs c a b + ds b c a = lo a b c := by
  have e1 : tu a b c = tu b c a := (tu_rot a b c).symm
  unfold cs ds lo
  rw [e1, if_pos (c := b.2 < c.2) h]
  (repeat' split) <;> omega
/-- down from b to c, the wall ab behind -/
theorem lo_down {a b c : P} (h : c.2 < b.2) (hac : a.2 ≠ c.2) : cs c a b - cs b a b + ds c b a = lo a b c := by
  have e1 : tu a b c = - tu c b a := by rw [← tu_rot a b c, tu_swap]
  unfold cs ds lo
  rw [e1, if_neg (c := b.2 < c.2) (by omega)]
  (repeat' split) <;> omega
/-- up from b to c, the wall ba behind -/
theorem lo_up' {a b c : P} (h : b.2 < c.2) (hac : a.2 ≠ c.2) : cs b b a - cs c b a - ds b c a = - lo a b c := by
  rw [cs_swap b a b, cs_swap c a b, ← lo_up h hac]
  omega
theorem lo_down' {a b c : P} (h : c.2 < b.2) (hac : a.2 ≠ c.2) : cs c b a - cs b b a - ds c b a = - lo a b c := by
  rw [cs_swap b a b, cs_swap c a b, ← lo_down h hac]
  omega

/-- the sum on a wall, read at its start -/
def mid (v : Nat → P) (n e : Nat) : Int := if (v e).2 < (v (nx n e)).2 then wn v n (v e) - lo (v (pv n e)) (v e) (v (nx n e)) else wn v n (v e) + lo (v (pv n e)) (v e) (v (nx n e))
/-- the same, read at its end -/
theorem mid_end {v : Nat → P} {n : Nat} (hs : Simple v n) {e : Nat} (he : e < n) : mid v n e = if (v e).2 < (v (nx n e)).2 then wn v n (v (nx n e)) - lo (v (nx n (nx n e))) (v (nx n e)) (v e) else wn v n (v (nx n e)) + lo (v (nx n (nx n e))) (v (nx n e)) (v e) := by
  have h3 := hs.h3
  have h0 : 0 < n := by omega
  have hn := nx_lt (n := n) (i := e) h0
  have hp := pv_lt (n := n) (i := e) h0
  have hnn := nx_lt (n := n) (i := nx n e) h0
  have g0 := hs.hts e (nx n e) he hn (Ne.symm (nx_ne (by omega) he))
  have g1 := hs.hts (pv n e) (nx n e) hp hn (pv_ne_nx h3 he)
  have g2 := hs.hts (nx n (nx n e)) e hnn he (fun h => pv_ne_nx h3 he (by rw [← pv_nx hn, h]))
  unfold mid
  split
  · rename_i h
    have h1 := wn_step hs he _ _ (.inl ⟨rfl, rfl⟩) h
    have h2 := lo_up h g1
    have h4 := lo_down' (a := v (nx n (nx n e))) h g2
    omega
  · rename_i h
    have h : (v (nx n e)).2 < (v e).2 := by omega
    have h1 := wn_step hs he _ _ (.inr ⟨rfl, rfl⟩) h
    have h2 := lo_down h g1
    have h4 := lo_up' (a := v (nx n (nx n e))) h g2
    omega
/-- the sum left of a wall -/
def lef (v : Nat → P) (n e : Nat) : Int := if (v e).2 < (v (nx n e)).2 then mid v n e + 1 else mid v n e

theorem lef_nx {v : Nat → P} {n : Nat} (hs : Simple v n) {e : Nat} (he : e < n) : lef v n (nx n e) = lef v n e := by
  have h3 := hs.h3
  have h0 : 0 < n := by omega
  have hn := nx_lt (n := n) (i := e) h0
  have hnn := nx_lt (n := n) (i := nx n e) h0
  have n1 : nx n e ≠ e := nx_ne (by omega) he
  have n2 : nx n (nx n e) ≠ nx n e := nx_ne (by omega) hn
  have n3 : nx n (nx n e) ≠ e := fun h => pv_ne_nx h3 he (by rw [← pv_nx hn, h])
  have g0 := hs.hts e (nx n e) he hn (Ne.symm n1)
  have g1 := hs.hts (nx n e) (nx n (nx n e)) hn hnn (Ne.symm n2)
  have g2 := hs.hts (nx n (nx n e)) e hnn he n3
  have o1 := hs.off e (nx n (nx n e)) he hnn n3 n2
  have o2 := hs.off (nx n e) e hn he (Ne.symm n1) (Ne.symm n3)
  unfold lef
  rw [mid_end hs he]
  unfold mid
  rw [pv_nx he]
  unfold lo Off at *
  generalize hx : v e = x at *
  generalize hy : v (nx n e) = y at *
  generalize hw : v (nx n (nx n e)) = w at *
  have e1 : tu w y x = - tu x y w := by rw [tu_swap, tu_rot, tu_rot]
  have e2 : tu y w x = tu x y w := by rw [tu_rot]
  have e3 : tu y x w = - tu x y w := tu_swap x y w
  rw [e1, e2, e3]
  rw [e2] at o2
  (repeat' split) <;> omega
theorem lef_all {v : Nat → P} {n : Nat} (hs : Simple v n) : ∀ e, e < n → lef v n e = lef v n 0
  | 0, _ => rfl
  | e + 1, h => by
    have h1 := lef_nx hs (e := e) (by omega)
    rw [nx_val (by omega), if_neg (by omega)] at h1
    rw [h1, lef_all hs e (by omega)]

end Jor
end Go.Proofs.Ytjccilpjaaiicaa

namespace Go.Proofs.Ytjccilpjaaiicaa
namespace Jor

/-- something greatest -/
theorem argmax (f : Nat → Int) (p : Nat → Bool) : ∀ n, (∃ i, i < n ∧ p i = true) → ∃ i, i < n ∧ p i = true ∧ ∀ k, k < n → p k = true → f k ≤ f i
  | 0, h => by obtain ⟨i, hi, _⟩ := h; omega
  | n + 1, h => by
    by_cases h1 : ∃ i, i < n ∧ p i = true
    · obtain ⟨i, hi, hp, hm⟩ := argmax f p n h1
      by_cases h2 : p n = true ∧ f i < f n
      · refine ⟨n, by omega, h2.1, fun k hk hpk => ?_⟩
        by_cases e : k = n
        · subst e; omega
        · have := hm k (by omega) hpk; omega
      · refine ⟨i, by omega, hp, fun k hk hpk => ?_⟩
        by_cases e : k = n
        · subst e
          rcases Int.lt_or_le (f i) (f k) with g | g
          · exact absurd ⟨hpk, g⟩ h2
          · exact g
        · exact hm k (by omega) hpk
    · obtain ⟨i, hi, hp⟩ := h
      have e : i = n := by
        rcases Nat.lt_or_ge i n with g | g
        · exact absurd ⟨i, g, hp⟩ h1
        · omega
      subst e
      refine ⟨i, by omega, hp, fun k hk hpk => ?_⟩
      by_cases e : k = i
      · subst e; omega
      · exact absurd ⟨k, by omega, hpk⟩ h1

theorem wn_top {v : Nat → P} {n : Nat} {q : P} (h : ∀ k, k < n → (v k).2 ≤ q.2) : wn v n q = 0 := by
  unfold wn
  rw [sm_congr _ (fun _ => 0) n ?_, sm_zero]
  intro i hi
  have h1 := h i hi
  have h2 := h (nx n i) (nx_lt (by omega))
  unfold cs
  rw [if_neg (by omega), if_neg (by omega)]
theorem lef_two {v : Nat → P} {n : Nat} (hs : Simple v n) : lef v n 0 = 0 ∨ lef v n 0 = 1 := by
  have h3 := hs.h3
  obtain ⟨t, ht, _, hm⟩ := argmax (fun k => (v k).2) (fun _ => true) n ⟨0, by omega, rfl⟩
  have hp := pv_lt (n := n) (i := t) (by omega)
  have h1 := lef_all hs (pv n t) hp
  have e1 : nx n (pv n t) = t := nx_pv ht
  have g := hs.hts (pv n t) t hp ht (pv_ne (by omega) ht)
  have g2 := hm (pv n t) hp rfl
  have hup : (v (pv n t)).2 < (v (nx n (pv n t))).2 := by rw [e1]; omega
  have hw : wn v n (v t) = 0 := wn_top fun k hk => hm k hk rfl
  rw [← h1]
  unfold lef
  rw [if_pos hup, mid_end hs hp, if_pos hup, e1, hw]
  unfold lo
  (repeat' split) <;> omega

/-- the turn along a line is affine -/
theorem lin (a b c d z : P) : tu a b c * (d.2 - z.2) + tu a b d * (z.2 - c.2) = tu a b z * (d.2 - c.2) - (b.2 - a.2) * tu c d z := by
  unfold tu
  grind
theorem split0 {x y k l : Int} (hk : 0 < k) (hl : 0 < l) (h : x * k + y * l = 0) : (x = 0 ∧ y = 0) ∨ (x < 0 ∧ 0 < y) ∨ (0 < x ∧ y < 0) := by
  rcases Int.lt_trichotomy x 0 with h1 | h1 | h1
  · have := mul_neg' h1 hk
    exact .inr (.inl ⟨h1, pos_of_mul hl (by omega)⟩)
  · subst h1
    rw [Int.zero_mul, Int.zero_add] at h
    rcases Int.mul_eq_zero.1 h with h2 | h2
    · exact .inl ⟨rfl, h2⟩
    · omega
  · have := Int.mul_pos h1 hk
    exact .inr (.inr ⟨h1, neg_of_mul hl (by omega)⟩)
theorem split0' {x y k l : Int} (hk : k < 0) (hl : l < 0) (h : x * k + y * l = 0) : (x = 0 ∧ y = 0) ∨ (x < 0 ∧ 0 < y) ∨ (0 < x ∧ y < 0) := by
  refine split0 (k := -k) (l := -l) (by omega) (by omega) ?_
  rw [Int.mul_neg, Int.mul_neg]
  omega
theorem On.sides {z a b c d : P} (h1 : On z a b) (h2 : On z c d) : (tu a b c = 0 ∧ tu a b d = 0) ∨ (tu a b c < 0 ∧ 0 < tu a b d) ∨ (0 < tu a b c ∧ tu a b d < 0) := by
  have h := lin a b c d z
  rw [h1.2, h2.2, Int.zero_mul, Int.mul_zero, Int.sub_zero] at h
  rcases h2.1 with g | g
  · exact split0 (by omega) (by omega) h
  · exact split0' (by omega) (by omega) h
theorem flat {a b c d : P} (hab : a.2 ≠ b.2) (h1 : tu a b c = 0) (h2 : tu a b d = 0) : tu c d a = 0 ∧ tu c d b = 0 := by
  have e1 := aff c d a b a.2
  have e2 := aff c d a b b.2
  rw [h1, h2] at e1 e2
  constructor
  · have : tu c d a * (b.2 - a.2) = 0 := by grind
    rcases Int.mul_eq_zero.1 this with h | h
    · exact h
    · omega
  · have : tu c d b * (a.2 - b.2) = 0 := by grind
    rcases Int.mul_eq_zero.1 this with h | h
    · exact h
    · omega
/-- two walls share no point but a corner -/
theorem on_two {z a b c d : P} (h1 : On z a b) (h2 : On z c d) (hx : ¬ Crs a b c d) (oc : c = b ∨ Off c a b) (od : d = a ∨ Off d a b) (oa : d = a ∨ Off a c d) (ob : c = b ∨ Off b c d) (g1 : a.2 ≠ c.2) (g2 : b.2 ≠ d.2) (g3 : c = b ∨ c.2 ≠ b.2) (g4 : d = a ∨ d.2 ≠ a.2) (g5 : ¬ (c = b ∧ d = a)) : False := by
  have s1 := h1.sides h2
  have s2 := h2.sides h1
  have hab : a.2 ≠ b.2 := by have := h1.1; omega
  have hcd : c.2 ≠ d.2 := by have := h2.1; omega
  have all0 : tu a b c = 0 ∧ tu a b d = 0 ∧ tu c d a = 0 ∧ tu c d b = 0 := by
    rcases s1 with ⟨t1, t2⟩ | s1
    · have := flat hab t1 t2
      exact ⟨t1, t2, this.1, this.2⟩
    · rcases s2 with ⟨t1, t2⟩ | s2
      · have := flat hcd t1 t2
        exact ⟨this.1, this.2, t1, t2⟩
      · exact absurd ⟨s2, s1⟩ hx
  obtain ⟨t1, t2, t3, t4⟩ := all0
  have i1 := h1.1
  have i2 := h2.1
  unfold Off at oc od oa ob
  rw [t1] at oc
  rw [t2] at od
  rw [t3] at oa
  rw [t4] at ob
  have oc' : c = b ∨ ¬ ((a.2 < c.2 ∧ c.2 < b.2) ∨ (b.2 < c.2 ∧ c.2 < a.2)) := oc.imp id fun h hh => h hh rfl
  have od' : d = a ∨ ¬ ((a.2 < d.2 ∧ d.2 < b.2) ∨ (b.2 < d.2 ∧ d.2 < a.2)) := od.imp id fun h hh => h hh rfl
  have oa' : d = a ∨ ¬ ((c.2 < a.2 ∧ a.2 < d.2) ∨ (d.2 < a.2 ∧ a.2 < c.2)) := oa.imp id fun h hh => h hh rfl
  have ob' : c = b ∨ ¬ ((c.2 < b.2 ∧ b.2 < d.2) ∨ (d.2 < b.2 ∧ b.2 < c.2)) := ob.imp id fun h hh => h hh rfl
  by_cases e1 : c = b
  · subst e1
    have e2 : d ≠ a := fun h => g5 ⟨rfl, h⟩
    have q1 := od'.resolve_left e2
    have q2 := oa'.resolve_left e2
    have q3 := g4.resolve_left e2
    clear oc od oa ob oc' od' oa' ob' s1 s2
    omega
  · by_cases e2 : d = a
    · subst e2
      have q1 := oc'.resolve_left e1
      have q2 := ob'.resolve_left e1
      have q3 := g3.resolve_left e1
      clear oc od oa ob oc' od' oa' ob' s1 s2
      omega
    · have q1 := oc'.resolve_left e1
      have q2 := ob'.resolve_left e1
      have q3 := g3.resolve_left e1
      have q4 := od'.resolve_left e2
      have q5 := oa'.resolve_left e2
      have q6 := g4.resolve_left e2
      clear oc od oa ob oc' od' oa' ob' s1 s2
      omega

end Jor
end Go.Proofs.Ytjccilpjaaiicaa

namespace Go.Proofs.Ytjccilpjaaiicaa
namespace Jor

theorem On.swap {z a b : P} (h : On z a b) : On z b a := ⟨by have := h.1; omega, by rw [tu_swap, h.2]; rfl⟩
theorem sub_id (x y z c : P) : tu x z c * (y.2 - x.2) = tu x y c * (z.2 - x.2) - tu x y z * (c.2 - x.2) := by
  unfold tu
  grind
theorem same_sign {t s k l : Int} (hk : 0 < k) (hl : 0 < l) (h : t * k = s * l) : (t < 0 ↔ s < 0) ∧ (0 < t ↔ 0 < s) := by
  refine ⟨⟨fun g => ?_, fun g => ?_⟩, ⟨fun g => ?_, fun g => ?_⟩⟩
  · have := mul_neg' g hk
    exact neg_of_mul hl (by omega)
  · have := mul_neg' g hl
    exact neg_of_mul hk (by omega)
  · have := Int.mul_pos g hk
    exact pos_of_mul hl (by omega)
  · have := Int.mul_pos g hl
    exact pos_of_mul hk (by omega)
/-- a part of a wall turns as the wall -/
theorem On.sub {x y z : P} (h : On z x y) (c : P) : (tu x z c < 0 ↔ tu x y c < 0) ∧ (0 < tu x z c ↔ 0 < tu x y c) := by
  have e := sub_id x y z c
  rw [h.2, Int.zero_mul, Int.sub_zero] at e
  rcases h.1 with g | g
  · exact same_sign (k := y.2 - x.2) (l := z.2 - x.2) (by omega) (by omega) e
  · refine same_sign (k := x.2 - y.2) (l := x.2 - z.2) (by omega) (by omega) ?_
    have e1 : x.2 - y.2 = -(y.2 - x.2) := by omega
    have e2 : x.2 - z.2 = -(z.2 - x.2) := by omega
    rw [e1, e2, Int.mul_neg, Int.mul_neg, e]
theorem On.off {x y z c : P} (h : On z x y) (o : Off c x y) : Off c x z := by
  intro hh
  have h1 := h.1
  have h2 := o (by omega)
  have h3 := h.sub c
  omega
theorem On.crs {x y z c d : P} (h : On z x y) (hx : ¬ Crs x y c d) : ¬ Crs x z c d := by
  rintro ⟨h1, h2⟩
  have hc := h.sub c
  have hd := h.sub d
  refine hx ⟨?_, by omega⟩
  have e := lin c d x y z
  rw [h.2, Int.mul_zero, Int.sub_zero] at e
  -- y lies beyond z
  have key : ∀ {a b t k l m : Int}, 0 < k → 0 < l → m = k + l → a * k + b * l = t * m → (a < 0 ∧ 0 < t → 0 < b) ∧ (0 < a ∧ t < 0 → b < 0) := by
    intro a b t k l m hk hl hm hh
    refine ⟨fun ⟨g1, g2⟩ => ?_, fun ⟨g1, g2⟩ => ?_⟩
    · have q1 := mul_neg' g1 hk
      have q2 := Int.mul_pos g2 (show 0 < m by omega)
      exact pos_of_mul hl (by omega)
    · have q1 := Int.mul_pos g1 hk
      have q2 := mul_neg' g2 (show 0 < m by omega)
      exact neg_of_mul hl (by omega)
  have k2 : (tu c d x < 0 ∧ 0 < tu c d z → 0 < tu c d y) ∧ (0 < tu c d x ∧ tu c d z < 0 → tu c d y < 0) := by
    rcases h.1 with g | g
    · exact key (k := y.2 - z.2) (l := z.2 - x.2) (m := y.2 - x.2) (by omega) (by omega) (by omega) e
    · refine key (k := z.2 - y.2) (l := x.2 - z.2) (m := x.2 - y.2) (by omega) (by omega) (by omega) ?_
      have e1 : z.2 - y.2 = -(y.2 - z.2) := by omega
      have e2 : x.2 - z.2 = -(z.2 - x.2) := by omega
      have e3 : x.2 - y.2 = -(y.2 - x.2) := by omega
      rw [e1, e2, e3, Int.mul_neg, Int.mul_neg, Int.mul_neg, ← e]
      omega
  omega

/-- a point of one wall is on no other -/
theorem Simple.off_on {v : Nat → P} {n : Nat} (hs : Simple v n) {e i : Nat} (he : e < n) (hi : i < n) (hie : i ≠ e) {z : P} (hz : On z (v e) (v (nx n e))) : Off z (v i) (v (nx n i)) := by
  intro hh h0
  have h3 := hs.h3
  have h0n : 0 < n := by omega
  have hn := nx_lt (n := n) (i := e) h0n
  have hni := nx_lt (n := n) (i := i) h0n
  have a2 : nx n i ≠ nx n e := fun h => hie ((nx_inj hi he).1 h)
  refine on_two hz ⟨hh, h0⟩ (hs.crs e i he hi) ?_ ?_ ?_ ?_ (hs.hts e i he hi (Ne.symm hie)) (hs.hts _ _ hn hni (Ne.symm a2)) ?_ ?_ ?_
  · by_cases q : i = nx n e
    · rw [q]; exact .inl rfl
    · exact .inr (hs.off e i he hi hie q)
  · by_cases q : nx n i = e
    · rw [q]; exact .inl rfl
    · exact .inr (hs.off e _ he hni q a2)
  · by_cases q : nx n i = e
    · rw [q]; exact .inl rfl
    · exact .inr (hs.off i e hi he (Ne.symm hie) (Ne.symm q))
  · by_cases q : i = nx n e
    · rw [q]; exact .inl rfl
    · exact .inr (hs.off i _ hi hn (Ne.symm q) (Ne.symm a2))
  · by_cases q : i = nx n e
    · rw [q]; exact .inl rfl
    · exact .inr (hs.hts _ _ hi hn q)
  · by_cases q : nx n i = e
    · rw [q]; exact .inl rfl
    · exact .inr (hs.hts _ _ hni he q)
  · rintro ⟨q1, q2⟩
    have r1 : i = nx n e := by
      rcases Nat.decEq i (nx n e) with q | q
      · exact absurd (congrArg Prod.snd q1) (hs.hts _ _ hi hn q)
      · exact q
    have r2 : nx n i = e := by
      rcases Nat.decEq (nx n i) e with q | q
      · exact absurd (congrArg Prod.snd q2) (hs.hts _ _ hni he q)
      · exact q
    exact pv_ne_nx h3 he (by rw [← r1, ← pv_nx hi, r2])

theorem lo_sub {a x y z : P} (hz : On z x y) : lo a x z = lo a x y := by
  have h := hz.sub a
  have h1 := hz.1
  have e1 : tu z x a = - tu x z a := tu_swap x z a
  have e2 : tu y x a = - tu x y a := tu_swap x y a
  unfold lo
  rw [e1, e2]
  (repeat' split) <;> omega

/-- the sum at a point of a wall -/
theorem wn_on {v : Nat → P} {n : Nat} (hs : Simple v n) {e : Nat} (he : e < n) {z : P} (hz : On z (v e) (v (nx n e))) (hg : ∀ k, k < n → (v k).2 ≠ z.2) : wn v n z = mid v n e := by
  have h3 := hs.h3
  have h0 : 0 < n := by omega
  have hn := nx_lt (n := n) (i := e) h0
  have hp := pv_lt (n := n) (i := e) h0
  have hpe := pv_ne (n := n) (by omega) he
  have rest : ∀ i, i < n → i ≠ pv n e → i ≠ e → Gen (v e) z (v i) (v (nx n i)) ∧ Off (v e) (v i) (v (nx n i)) ∧ Off z (v i) (v (nx n i)) ∧ Off (v i) (v e) z ∧ Off (v (nx n i)) (v e) z ∧ ¬ Crs (v e) z (v i) (v (nx n i)) := by
    intro i hi h1 h2
    have hni := nx_lt (n := n) (i := i) h0
    have a1 : nx n i ≠ e := fun h => h1 (by rw [← pv_nx hi, h])
    have a2 : nx n i ≠ nx n e := fun h => h2 ((nx_inj hi he).1 h)
    have o4 : Off (v (nx n i)) (v e) z := hz.off (hs.off e (nx n i) he hni a1 a2)
    have o3 : Off (v i) (v e) z := by
      by_cases q : i = nx n e
      · intro hh
        rw [q] at hh
        have := hz.1
        omega
      · exact hz.off (hs.off e i he hi h2 q)
    have gg := hz.1
    refine ⟨⟨by omega, hs.hts i _ hi hni (Ne.symm (nx_ne (by omega) hi)), hs.hts e i he hi (Ne.symm h2), hs.hts e _ he hni (Ne.symm a1), Ne.symm (hg i hi), Ne.symm (hg _ hni)⟩, hs.off i e hi he (Ne.symm h2) (Ne.symm a1), hs.off_on he hi h2 hz, o3, o4, hz.crs (hs.crs e i he hi)⟩
  have ga := hg (pv n e) hp
  unfold mid
  rw [← lo_sub hz]
  rcases hz.1 with g | g
  · rw [if_pos (by omega)]
    have h := wn_way v (n := n) (by omega) (v e) z
    rw [sm_two hp he hpe ?_, nx_pv he] at h
    · have h2 := lo_up (a := v (pv n e)) g.1 ga
      have h4 := cs_on hz
      have h5 : ds (v e) z (v (nx n e)) = 0 := by unfold ds; rw [if_neg (by omega)]
      rw [cs_self, h4, h5, ds_fst] at h
      omega
    · intro i hi h1 h2
      obtain ⟨r0, r1, r2, r3, r4, r5⟩ := rest i hi h1 h2
      rw [stripS g.1 r0 r1 r2 r3 r4 r5, Int.sub_self]
  · rw [if_neg (by omega)]
    have h := wn_way v (n := n) (by omega) z (v e)
    rw [sm_two hp he hpe ?_, nx_pv he] at h
    · have h2 := lo_down (a := v (pv n e)) g.2 ga
      have h4 := cs_on hz
      have h5 : ds z (v e) (v (nx n e)) = 0 := by unfold ds; rw [if_neg (by omega)]
      rw [cs_self, h4, h5, ds_snd] at h
      omega
    · intro i hi h1 h2
      obtain ⟨r0, r1, r2, r3, r4, r5⟩ := rest i hi h1 h2
      obtain ⟨q1, q2, q3, q4, q5, q6⟩ := r0
      rw [stripS g.2 ⟨q1.symm, q2, q5, q6, q3, q4⟩ r2 r1 r3.swap r4.swap (fun h => r5 (crs_comm.1 (crs_swap.1 (crs_comm.1 h)))), Int.sub_self]

end Jor
end Go.Proofs.Ytjccilpjaaiicaa

namespace Go.Proofs.Ytjccilpjaaiicaa
namespace Jor

/-- the wall ab passes the height h -/
def Str (h : Int) (a b : P) : Prop := (a.2 < h ∧ h < b.2) ∨ (b.2 < h ∧ h < a.2)
instance (h : Int) (a b : P) : Decidable (Str h a b) := by unfold Str; infer_instance
theorem cs_not {q a b : P} (h : ¬ Str q.2 a b) : cs q a b = 0 := by
  unfold Str at h
  unfold cs
  rw [if_neg (by omega), if_neg (by omega)]
theorem tu_at {a b : P} {x X h : Int} (ho : On (X, h) a b) : tu a b (x, h) = (b.2 - a.2) * (X - x) := by
  have := ho.2
  unfold tu at *
  simp only at *
  grind
theorem cs_at {a b : P} {x X h : Int} (ho : On (X, h) a b) : cs (x, h) a b = if x < X then (if a.2 < b.2 then 1 else -1) else 0 := by
  have e := tu_at (x := x) ho
  have g := ho.1
  simp only at g
  unfold cs
  rw [e]
  by_cases hx : x < X
  · rw [if_pos hx]
    by_cases hu : a.2 < b.2
    · have := Int.mul_pos (show 0 < b.2 - a.2 by omega) (show 0 < X - x by omega)
      rw [if_pos hu, if_pos (by simp only; omega)]
    · have := Int.mul_pos (show 0 < a.2 - b.2 by omega) (show 0 < X - x by omega)
      have e1 : (b.2 - a.2) * (X - x) = -((a.2 - b.2) * (X - x)) := by grind
      rw [if_neg hu, e1, if_neg (by simp only; omega), if_pos (by simp only; omega)]
  · rw [if_neg hx]
    have h2 : 0 ≤ x - X := by omega
    by_cases hu : a.2 < b.2
    · have := Int.mul_nonneg (show 0 ≤ b.2 - a.2 by omega) h2
      have e1 : (b.2 - a.2) * (X - x) = -((b.2 - a.2) * (x - X)) := by grind
      rw [e1, if_neg (by simp only; omega), if_neg (by simp only; omega)]
    · have := Int.mul_nonneg (show 0 ≤ a.2 - b.2 by omega) h2
      have e1 : (b.2 - a.2) * (X - x) = ((a.2 - b.2) * (x - X)) := by grind
      rw [e1, if_neg (by simp only; omega), if_neg (by simp only; omega)]

/-- any point at a height where all walls are met at whole places -/
theorem wn_near {v : Nat → P} {n : Nat} (hs : Simple v n) (x h : Int) (hg : ∀ k, k < n → (v k).2 ≠ h) (X : Nat → Int) (hX : ∀ i, i < n → Str h (v i) (v (nx n i)) → On (X i, h) (v i) (v (nx n i))) : wn v n (x, h) = lef v n 0 ∨ wn v n (x, h) = lef v n 0 - 1 := by
  by_cases hno : ∃ i, i < n ∧ decide (Str h (v i) (v (nx n i)) ∧ x < X i) = true
  · obtain ⟨e, he, hpe, hm⟩ := argmax (fun i => - X i) (fun i => decide (Str h (v i) (v (nx n i)) ∧ x < X i)) n hno
    obtain ⟨hst, hxe⟩ := of_decide_eq_true hpe
    have hz := hX e he hst
    have hzw := wn_on hs he hz (fun k hk => hg k hk)
    have hl := lef_all hs e he
    have hsum : wn v n (x, h) - wn v n (X e, h) = cs (x, h) (v e) (v (nx n e)) - cs (X e, h) (v e) (v (nx n e)) := by
      unfold wn
      rw [← sm_sub, sm_one n he]
      intro i hi hie
      by_cases hsi : Str h (v i) (v (nx n i))
      · have ho := hX i hi hsi
        rw [cs_at ho, cs_at ho]
        have hoff := hs.off_on he hi hie hz hsi
        rw [tu_at ho] at hoff
        have hne : X i ≠ X e := fun q => hoff (by rw [q, Int.sub_self, Int.mul_zero])
        have hmi := hm i hi
        by_cases c : x < X i
        · have := hmi (decide_eq_true ⟨hsi, c⟩)
          rw [if_pos c, if_pos (c := X e < X i) (by omega)]
          omega
        · rw [if_neg c, if_neg (by omega)]
          omega
      · rw [cs_not hsi, cs_not hsi]
        omega
    rw [cs_on hz, cs_at hz, if_pos hxe, hzw] at hsum
    unfold lef at hl
    rw [← lef_all hs e he]
    unfold lef
    split at hsum
    · rename_i c
      rw [if_pos c]
      omega
    · rename_i c
      rw [if_neg c]
      omega
  · have h0 : wn v n (x, h) = 0 := by
      unfold wn
      rw [sm_congr _ (fun _ => 0) n ?_, sm_zero]
      intro i hi
      by_cases hsi : Str h (v i) (v (nx n i))
      · rw [cs_at (hX i hi hsi), if_neg (fun c => hno ⟨i, hi, decide_eq_true ⟨hsi, c⟩⟩)]
      · exact cs_not hsi
    have := lef_two hs
    omega

end Jor
end Go.Proofs.Ytjccilpjaaiicaa

