/-
  Contracts: the copy of a room (l04Copy), the draw of a room (l04Room, DrawRoom).
-/
import Derived.Test.YtanagdlikoinaaaDrawR
import Derived.Test.YtanagdlikoinaaaSRoomOk
import Derived.Deep.Cut
namespace Go.Proofs.Ytanagdlikoinaaa
open Go.RowKit

theorem ownsRow_empty (w : World) (T size base : Nat) (h : base ≤ w.heap.size) : (w.alloc (.cells #[] T)).ownsRow base T size (.slice (some ⟨w.heap.size, 0, none⟩) 0 0) 0 [] :=
  ⟨by simp, .inr ⟨w.heap.size, 0, #[], rfl, h, heap_alloc_new w _, Nat.le_refl _, by unfold maxLen; omega, by simp, by simp⟩⟩
theorem seg_all {w : World} {b off : Nat} {l : List (Int × Int)} (h : RPts w (some ⟨b, off, none⟩) l) : ∀ j u, (flat l)[j]? = some u → w.cell? ((⟨b, off, none⟩ : Addr).add j) = some u := by
  have := seg_take h l.length
  rwa [List.take_length] at this
theorem own_cap {w : World} {base e size n : Nat} {A : Option Addr} {c : Nat} {xs : List Value} (h : w.ownsRow base e size (.slice A n c) n xs) (h0 : 0 < n) : n ≤ c := by
  rcases h.2 with ⟨h1, h2⟩ | ⟨g, cap, cur, hv, _, _, hcap, _⟩
  · omega
  · injection hv with _ _ hc
    omega

set_option maxRecDepth 100000 in
set_option maxHeartbeats 1600000 in
theorem l04Copy_any (b off : Nat) (l : List (Int × Int)) (c : Nat) (w : World) (hp : RPts w (some ⟨b, off, none⟩) l) (hn : l.length ≤ 1048576) (_ : l.length ≤ c) (h0 : 0 < l.length) :
    Calls Try.prog 46 #[.agg #[.slice (some ⟨b, off, none⟩) l.length c]] w (RetQ l w) := by
  obtain ⟨i0, hI, hZ, hS, hY⟩ := info_parts info_ipt
  have HB : Hid (∀ w', Ext ((w.alloc (.cells #[.slice (some ⟨b, off, none⟩) l.length c] 26)).alloc (.cells #[.slice none 0 0] 26)) w' → w'.cell? ⟨w.heap.size, 0, none⟩ = some (.slice (some ⟨b, off, none⟩) l.length c) ∧ w.heap.size < w'.heap.size ∧ w'.cell? ⟨w.heap.size + 1, 0, none⟩ = some (.slice none 0 0) ∧ w'.frozen? ⟨w.heap.size + 1, 0, none⟩ = false ∧ w.heap.size + 1 < w'.heap.size) := fun w' hx => by
    and_intros <;> (first | (have hz := hx.size; simp at hz; omega) | ((first | rw [hx.cells _ _ (by first | (simp; done) | (simp; omega))] | rw [hx.frozens _ _ (by first | (simp; done) | (simp; omega))]); (first | (simp [go_sem]; done) | (simp [go_sem, World.cell?_alloc_past]; done) | (simp [go_sem, World.frozen?]; done))))
  have hown := ownsRow_empty ((w.alloc (.cells #[.slice (some ⟨b, off, none⟩) l.length c] 26)).alloc (.cells #[.slice none 0 0] 26)) 38 2 (w.heap.size + 1 + 1) (by simp)
  have esz : ((w.alloc (.cells #[.slice (some ⟨b, off, none⟩) l.length c] 26)).alloc (.cells #[.slice none 0 0] 26)).heap.size = w.heap.size + 1 + 1 := by simp
  rw [esz] at hown
  clear esz
  go_enter Try.func46, Try.ntmps46
  go_wp2_with (at_builtin; refine wpList_app _ rfl (.tmp 3) (.tmp 5) _ rfl (w.heap.size + 1 + 1) 38 i0 _ 2 16 Try.underlying24 hI hZ hS hY rfl (by omega) _ 0 [] (by first | rfl | (simp; done)) hown ⟨b, off, none⟩ l.length c (flat l) (by first | rfl | (simp; done)) (by rw [flat_length]) (seg_all (hp.ext (by (repeat (first | exact Ext.refl _ | assumption | apply Ext.alloc | apply Ext.drew | apply Ext.drewN | (refine Ext.trans ?_ (by assumption))))))) (flat_one _) (by unfold maxLen; omega) (by omega) (by simp) ?_; intro v' w3 hown3 hg3 _; obtain ⟨A3, c3, rfl⟩ := ownsRow_slice hown3; have hx3 : Ext ((w.alloc (.cells #[.slice (some ⟨b, off, none⟩) l.length c] 26)).alloc (.cells #[.slice none 0 0] 26)) w3 := ext_grown (show Ext ((w.alloc (.cells #[.slice (some ⟨b, off, none⟩) l.length c] 26)).alloc (.cells #[.slice none 0 0] 26)) (((w.alloc (.cells #[.slice (some ⟨b, off, none⟩) l.length c] 26)).alloc (.cells #[.slice none 0 0] 26)).alloc (.cells #[] 38)) by (repeat (first | exact Ext.refl _ | assumption | apply Ext.alloc | apply Ext.drew | apply Ext.drewN | (refine Ext.trans ?_ (by assumption))))) hg3 (fun q hq => by have := (hown.lt q hq).1; simpa using this); have f3 := HB.out w3 hx3; rw [Nat.zero_add, List.nil_append] at hown3)
  refine bodyPost_ret (v := .agg #[.slice A3 l.length c3]) (by simp [results, Try.results46, go_sem, f3]) rfl ⟨A3, c3, rfl, own_cap hown3 h0, ?_, (show Ext w w3 by (repeat (first | exact Ext.refl _ | assumption | apply Ext.alloc | apply Ext.drew | apply Ext.drewN | (refine Ext.trans ?_ (by assumption))))).setCell (by simp) _⟩
  exact ((OwnS.of_own hown3).2.set_below (p := ⟨w.heap.size + 1, 0, none⟩) (by show w.heap.size + 1 < _; omega) _).more (by omega) (by rw [size_setCell]; exact Nat.le_refl _)

theorem cur_ext {w w' : World} {g : Nat} {B : Option Addr} {n c : Nat} (h : Cur w g B n c) (hx : Ext w w') : Cur w' g B n c := by
  obtain ⟨i, hh, h1, h2⟩ := h
  exact ⟨i, hh, (hx.below.block g (heap_lt h1)).trans h1, h2⟩
theorem cur_set {w : World} {g : Nat} {B : Option Addr} {n c : Nat} (h : Cur w g B n c) {p : Addr} (hp : g ≠ p.block) (u : Value) : Cur (w.setCell p u) g B n c := by
  obtain ⟨i, hh, h1, h2⟩ := h
  exact ⟨i, hh, (Below.heap_setCell _ _ _ _ hp).trans h1, h2⟩
theorem rb_set {w : World} {B : Option Addr} {n : Nat} (h : RB w B n) {p : Addr} (hp : 0 < n → ∀ b off, B = some ⟨b, off, none⟩ → b ≠ p.block) (u : Value) : RB (w.setCell p u) B n := fun h0 =>
  let ⟨b, off, e, h1, h2⟩ := h h0
  ⟨b, off, e, by rw [size_setCell]; exact h1, fun k hk => let ⟨x, h3, h4⟩ := h2 k hk; ⟨x, (World.cell?_of_block (w := w) (a := ⟨b, off + k, none⟩) (Below.heap_setCell _ _ _ _ (hp h0 b off e))).trans h3, h4⟩⟩
theorem l04Copy_at (b off : Nat) (l : List (Int × Int)) (c N : Nat) (w : World) (hN : l.length = N) (hp : RPts w (some ⟨b, off, none⟩) l) (hn : N ≤ 1048576) (hc : N ≤ c) (h0 : 0 < N) :
    Calls Try.prog 46 #[.agg #[.slice (some ⟨b, off, none⟩) N c]] w fun e w' => ∃ g c', e = .returned (.agg #[.slice (some ⟨g, 0, none⟩) N c']) ∧ N ≤ c' ∧ w.heap.size ≤ g ∧ OwnP w' g 38 l ∧ Ext w w' := by
  subst hN
  refine (l04Copy_any b off l c w hp hn hc h0).mono ?_
  rintro e w' ⟨A, c', rfl, h1, h2, h3⟩
  obtain ⟨g, rfl, h4, _, h5⟩ := h2 h0
  exact ⟨g, c', rfl, h1, h4, h5, h3⟩
/-- a cursor over bytes -/
def CS (g : Nat) (B : Option Addr) (n c : Nat) (w : World) : Prop := Cur w g B n c ∧ RB w B n
/-- what a draw may do: the cursor turns and stays one; new blocks -/
def DR (g : Nat) (B : Option Addr) (n c : Nat) (a b : World) : Prop := Only g a b ∧ (Cur a g B n c → Cur b g B n c)
theorem dr_pre (g : Nat) (B : Option Addr) (n c : Nat) : PreR (DR g B n c) :=
  ⟨fun w => ⟨Only.refl w, id⟩,
    fun h k => ⟨h.1.trans k.1, fun x => k.2 (h.2 x)⟩,
    fun w => ⟨Only.of_ext ((Ext.refl w).drew), id⟩⟩
theorem OwnS.only {g : Nat} {a b : World} {lo hi : Nat} {T : TypeId} {A : Option Addr} {l : List (Int × Int)} (h : OwnS a lo hi T A l) (ho : Only g a b) (hg : g < lo) : OwnS b lo hi T A l := fun hl =>
  let ⟨k, e, h1, h2, h3⟩ := h hl
  ⟨k, e, h1, h2, h3.same (ho.block k h3.lt (by omega))⟩
theorem OneC.only {g : Nat} {a b : World} {k : Nat} {T : TypeId} {v : Value} (h : OneC a k T v) (ho : Only g a b) (hk : k ≠ g) : OneC b k T v := (ho.block k (heap_lt h) hk).trans h
theorem OwnP.only {g : Nat} {a b : World} {k : Nat} {T : TypeId} {l : List (Int × Int)} (h : OwnP a k T l) (ho : Only g a b) (hk : k ≠ g) : OwnP b k T l := h.same (ho.block k h.lt hk)
/-- a number below m -/
theorem below_cs (g : Nat) (B : Option Addr) (n c m : Nat) (w : World) (hc : CS g B n c w) (hn : n ≤ 1048576) (hne : 0 < n → ∀ b off, B = some ⟨b, off, none⟩ → b ≠ g) (h0 : 0 < m) (h1 : m ≤ 256) :
    Calls Try.prog 45 #[.pointer (some ⟨g, 0, none⟩), .int .i64 m] w fun e w' => ∃ x : Nat, x < m ∧ e = .returned (.int .i64 (x : Int)) ∧ CS g B n c w' ∧ Only g w w' := by
  refine (l01Below_any g B n c m w hc.1 hc.2 hn hne h0 h1).mono ?_
  rintro e w' ⟨x, ⟨x0, x1⟩, rfl, hc1, o1⟩
  obtain ⟨k, rfl⟩ := Int.eq_ofNat_of_zero_le x0
  exact ⟨k, by omega, rfl, ⟨hc1, hc.2.only o1 hne⟩, o1⟩

/-- a value that is a number below m -/
def NumV (m : Nat) (v : Value) (_ : World) : Prop := ∃ x : Nat, x < m ∧ v = .int .i64 (x : Int)
theorem numV_st (R : World → World → Prop) (m : Nat) : StableT R (NumV m) := fun _ _ _ h _ => h

/-- x + d for a number d below m -/
def SumV (x : Int) (m : Nat) (v : Value) (_ : World) : Prop := ∃ d : Nat, d < m ∧ v = .int .i64 (x + (d : Int))
theorem sumV_st (R : World → World → Prop) (x : Int) (m : Nat) : StableT R (SumV x m) := fun _ _ _ h _ => h
def SumV1 (x : Int) (m : Nat) (v : Value) (_ : World) : Prop := ∃ d : Nat, d < m ∧ v = .int .i64 (x + (d : Int) - 1)
theorem sumV1_st (R : World → World → Prop) (x : Int) (m : Nat) : StableT R (SumV1 x m) := fun _ _ _ h _ => h

theorem OneC.far {w : World} {k : Nat} {T : TypeId} {v : Value} (h : OneC w k T v) {p : Addr} (hne : k ≠ p.block) (u : Value) : OneC (w.setCell p u) k T v := by
  have e : (w.setCell p u).heap[k]? = w.heap[k]? := Below.heap_setCell _ _ _ _ hne
  unfold OneC at *
  rw [e]
  exact h
theorem OwnP.far {w : World} {k : Nat} {T : TypeId} {l : List (Int × Int)} (h : OwnP w k T l) {p : Addr} (hne : k ≠ p.block) (u : Value) : OwnP (w.setCell p u) k T l := h.same (Below.heap_setCell _ _ _ _ hne)
theorem sRoomOk_at (g : Nat) (l : List (Int × Int)) (c N : Nat) (w : World) (hN : l.length = N) (hp : OwnP w g 38 l) (hn : N ≤ 1048576) :
    Calls Try.prog 47 #[.agg #[.slice (some ⟨g, 0, none⟩) N c]] w fun e w' => e = .returned (.bool (roomB l)) ∧ Ext w w' := by
  subst hN
  exact sRoomOk_any _ l c w (fun _ => ⟨g, 0, rfl, Nat.zero_le _, hp.lt, hp.ptsAt⟩) hn
theorem mvd_set {l : List (Int × Int)} {i : Nat} (hi : i < l.length) (x y : Int) : (l.set i (gx l i + x, gy l i)).set i (gx (l.set i (gx l i + x, gy l i)) i, gy l i + y) = mvd l i x y := by
  rw [List.set_set, gx_set l i i _ _ hi, if_pos rfl]
  rfl

/-- the first loop's state after j rounds: the room so far in box b3 -/
def R1 (g : Nat) (B : Option Addr) (n c s b3 rb N : Nat) (w : World) (j : Nat) (wr : World) : Prop :=
  ∃ l gA c', Reach s j l ∧ l.length = N ∧ CS g B n c wr ∧ Only g w wr ∧ OneC wr rb 26 (.slice none 0 0) ∧ OneC wr b3 26 (.slice (some ⟨gA, 0, none⟩) N c') ∧ N ≤ c' ∧ w.heap.size + 1 ≤ gA ∧ OwnP wr gA 38 l

/-- a block with one point -/
def PtC (w : World) (b : Nat) (x y : Int) : Prop := w.heap[b]? = some (.cells #[.int .i64 x, .int .i64 y] 38 (0, 0))
theorem PtC.ext {w w' : World} {b : Nat} {x y : Int} (h : PtC w b x y) (hx : Ext w w') : PtC w' b x y := (hx.below.block b (heap_lt h)).trans h
theorem PtC.cells {w : World} {b : Nat} {x y : Int} (h : PtC w b x y) : b < w.heap.size ∧ w.cell? ⟨b, 0, none⟩ = some (.int .i64 x) ∧ w.cell? ⟨b, 1, none⟩ = some (.int .i64 y) ∧ w.frozen? ⟨b, 0, none⟩ = false ∧ w.frozen? ⟨b, 1, none⟩ = false := by
  refine ⟨heap_lt h, ?_, ?_, ?_, ?_⟩ <;> (unfold PtC at h; simp [World.cell?, World.frozen?, h])
theorem PtC.set {w : World} {b : Nat} {x y : Int} (h : PtC w b x y) (x' y' : Int) : PtC ((w.setCell ⟨b, 0, none⟩ (.int .i64 x')).setCell ⟨b, 1, none⟩ (.int .i64 y')) b x' y' := by
  unfold PtC at *
  simp [World.setCell, Array.getElem?_modify, h]
theorem PtC.setX {w : World} {b : Nat} {x y : Int} (h : PtC w b x y) (x' : Int) : PtC (w.setCell ⟨b, 0, none⟩ (.int .i64 x')) b x' y := by
  unfold PtC at *
  simp [World.setCell, Array.getElem?_modify, h]
/-- a new box with a zero point -/
def BoxP (lo : Nat) (v : Value) (w : World) : Prop := ∃ b, v = .pointer (some ⟨b, 0, none⟩) ∧ lo ≤ b ∧ PtC w b 0 0
theorem BoxP_stable (lo : Nat) : Stable (BoxP lo) := by
  rintro v w w' ⟨b, rfl, h1, h2⟩ hx
  exact ⟨b, rfl, h1, h2.ext hx⟩
theorem BoxP_new {lo : Nat} (w : World) (h : lo ≤ w.heap.size) : BoxP lo (.pointer (some ⟨w.heap.size, 0, none⟩)) (w.alloc (.cells #[.int .i64 0, .int .i64 0] 38)) := ⟨_, rfl, h, heap_alloc_new w _⟩
theorem ownsRow_far {w : World} {base e size n : Nat} {v : Value} {xs : List Value} (h : w.ownsRow base e size v n xs) {p : Addr} (hp : v.ownBlock ≠ some p.block) (u : Value) : (w.setCell p u).ownsRow base e size v n xs := by
  obtain ⟨h1, h2⟩ := h
  refine ⟨h1, ?_⟩
  rcases h2 with h2 | ⟨g, cap, cur, hv, hg, hh, h3⟩
  · exact .inl h2
  · refine .inr ⟨g, cap, cur, hv, hg, (Below.heap_setCell _ _ _ _ (fun e => hp ?_)).trans hh, h3⟩
    rw [hv, ← e]
    rfl
theorem ownsRow_only' {w w' : World} {base e size n g : Nat} {v : Value} {xs : List Value} (h : w.ownsRow base e size v n xs) (hx : Only g w w') (hb : g < base) : w'.ownsRow base e size v n xs := by
  obtain ⟨h1, h2⟩ := h
  refine ⟨h1, ?_⟩
  rcases h2 with h2 | ⟨k, cap, cur, hv, hg, hh, h3⟩
  · exact .inl h2
  · exact .inr ⟨k, cap, cur, hv, hg, (hx.block k (heap_lt hh) (by omega)).trans hh, h3⟩
theorem OneC.grown' {w w' : World} {b : Nat} {T : TypeId} {v : Value} {row : Option Nat} (h : OneC w b T v) (hg : w.grownBy w' row) (hr : row ≠ some b) : OneC w' b T v := (hg.block b (heap_lt h) (fun e => hr e.symm)).trans h
theorem cur_grown {a b : World} {g : Nat} {B : Option Addr} {n c : Nat} {row : Option Nat} (h : Cur a g B n c) (hg : a.grownBy b row) (hr : row ≠ some g) : Cur b g B n c := by
  obtain ⟨i, hh, h1, h2⟩ := h
  exact ⟨i, hh, (hg.block g (heap_lt h1) (fun e => hr e.symm)).trans h1, h2⟩
theorem rb_grown {w w' : World} {B : Option Addr} {n : Nat} {row : Option Nat} (h : RB w B n) (hg : w.grownBy w' row) (hr : 0 < n → ∀ b off, B = some ⟨b, off, none⟩ → row ≠ some b) : RB w' B n := fun h0 =>
  let ⟨b, off, e, h1, h2⟩ := h h0
  ⟨b, off, e, Nat.lt_of_lt_of_le h1 hg.size, fun k hk => let ⟨x, h3, h4⟩ := h2 k hk; ⟨x, (World.cell?_of_block (w := w) (a := ⟨b, off + k, none⟩) (hg.block b h1 (fun e2 => hr h0 b off e e2.symm))).trans h3, h4⟩⟩
theorem only_grown {g : Nat} {w a b : World} {row : Option Nat} (h : Only g w a) (hg : a.grownBy b row) (hr : ∀ k, row = some k → w.heap.size ≤ k) : Only g w b :=
  ⟨hg.os.trans h.os, hg.tape.trans h.tape, hg.output.trans h.output, Nat.le_trans h.size hg.size, fun k hk hkg => (hg.block k (Nat.lt_of_lt_of_le hk h.size) (fun e => by have := hr k e.symm; omega)).trans (h.block k hk hkg)⟩

/-- the second loop's state after k rounds: the room so far in box b8 -/
def R2 (g : Nat) (B : Option Addr) (n c b3 rb b8 N gA c' : Nat) (l : List (Int × Int)) (m t : Nat) (dx : Int) (w : World) (k : Nat) (wr : World) : Prop :=
  ∃ v, CS g B n c wr ∧ Only g w wr ∧ OneC wr rb 26 (.slice none 0 0) ∧ OneC wr b3 26 (.slice (some ⟨gA, 0, none⟩) N c') ∧ OwnP wr gA 38 l ∧ OneC wr b8 26 v ∧ wr.ownsRow (b8 + 1) 38 2 v k (flat ((rotL l m k).map (trn t dx)))

theorem ownsRow_onlyB {w w' : World} {base e size n q : Nat} {v : Value} {xs : List Value} (h : w.ownsRow base e size v n xs) (hx : Only q w w') (hb : v.ownBlock ≠ some q) : w'.ownsRow base e size v n xs := by
  obtain ⟨h1, h2⟩ := h
  refine ⟨h1, ?_⟩
  rcases h2 with h2 | ⟨k, cap, cur, hv, hg, hh, h3⟩
  · exact .inl h2
  · refine .inr ⟨k, cap, cur, hv, hg, (hx.block k (heap_lt hh) (fun e => hb ?_)).trans hh, h3⟩
    rw [hv, ← e]
    rfl
theorem cur_only {w w' : World} {g q : Nat} {B : Option Addr} {n c : Nat} (h : Cur w g B n c) (hx : Only q w w') (hq : g ≠ q) : Cur w' g B n c := by
  obtain ⟨i, hh, h1, h2⟩ := h
  exact ⟨i, hh, (hx.block g (heap_lt h1) hq).trans h1, h2⟩
theorem only_two {g q : Nat} {w a b : World} (h : Only g w a) (hx : Only q a b) (hq : w.heap.size ≤ q) : Only g w b :=
  ⟨hx.os.trans h.os, hx.tape.trans h.tape, hx.output.trans h.output, Nat.le_trans h.size hx.size, fun k hk hkg => (hx.block k (Nat.lt_of_lt_of_le hk h.size) (by omega)).trans (h.block k hk hkg)⟩


set_option maxRecDepth 100000 in
set_option maxHeartbeats 6400000 in
theorem l04Room_any (g : Nat) (B : Option Addr) (n c : Nat) (w : World) (hc : CS g B n c w) (hn : n ≤ 1048576) (hne : 0 < n → ∀ b off, B = some ⟨b, off, none⟩ → b ≠ g) (hgw : g < w.heap.size) :
    Calls Try.prog 27 #[.pointer (some ⟨g, 0, none⟩)] w fun e w' => ∃ L A c', e = .returned (.agg #[.slice A L.length c']) ∧ L.length ≤ c' ∧ Drawn L ∧ OwnS w' w.heap.size w'.heap.size 38 A L ∧ CS g B n c w' ∧ Only g w w' := by
  have x0 : Ext w (w.alloc (.cells #[.slice none 0 0] 26)) := by (repeat (first | exact Ext.refl _ | assumption | apply Ext.alloc | apply Ext.drew | apply Ext.drewN | (refine Ext.trans ?_ (by assumption))))
  have r0 := OneC.new w 26 (.slice none 0 0)
  have cs0 : CS g B n c (w.alloc (.cells #[.slice none 0 0] 26)) := ⟨hc.1.alloc _, hc.2.ext x0⟩
  have z0 : (w.alloc (.cells #[.slice none 0 0] 26)).heap.size = w.heap.size + 1 := by simp
  go_enter Try.func27, Try.ntmps27
  go_wp2_with fail
  refine (below_cs g B n c 8 _ cs0 hn hne (by omega) (by omega)).mono ?_
  rintro e w1 ⟨s, hs, rfl, cs1, o1⟩
  have hz1 := o1.size
  rw [z0] at hz1
  go_wp2_with fail
  refine (l04Shape_any s hs _).mono ?_
  rintro e w2 ⟨A2, c2, rfl, cap2, own2, x2⟩
  have hz2 := x2.size
  obtain ⟨W2, hW2⟩ : ∃ W2, W2 = w2.alloc (.cells #[.slice A2 (shp s).length c2] 26) := ⟨_, rfl⟩
  have xW2 : Ext w2 W2 := by rw [hW2]; (repeat (first | exact Ext.refl _ | assumption | apply Ext.alloc | apply Ext.drew | apply Ext.drewN | (refine Ext.trans ?_ (by assumption))))
  have n3 : OneC W2 w2.heap.size 26 (.slice A2 (shp s).length c2) := by rw [hW2]; exact OneC.new _ _ _
  have zW2 : W2.heap.size = w2.heap.size + 1 := by rw [hW2]; simp
  obtain ⟨len3, len10⟩ := shp_length s
  obtain ⟨N, hN⟩ : ∃ N, N = (shp s).length := ⟨_, rfl⟩
  rw [← hN] at len3 len10
  obtain ⟨d1, d2, d3⟩ := n3.cell
  go_wp2_with fail
  rw [← hW2]
  clear hW2
  rw [← hN]
  refine (below_cs g B n c 4 W2 ⟨cur_ext (cur_ext cs1.1 x2) xW2, (cs1.2.ext x2).ext xW2⟩ hn hne (by omega) (by omega)).mono ?_
  rintro e w3 ⟨K, hK, rfl, cs3, o3⟩
  have hz3 := o3.size
  obtain ⟨rb, hrb⟩ : ∃ rb, rb = w.heap.size := ⟨_, rfl⟩
  obtain ⟨b3, hb3⟩ : ∃ b3, b3 = w2.heap.size := ⟨_, rfl⟩
  have O03 : Only g w w3 := ((((Only.of_ext x0).trans o1).ext x2).ext xW2).trans o3
  obtain ⟨g2, rfl, hg2, _, p2⟩ := own2 (by omega)
  have st0 : R1 g B n c s b3 rb N w 0 w3 := ⟨shp s, g2, c2, Reach.base, hN.symm, cs3, O03, by rw [hrb]; exact (((r0.only o1 (by omega)).ext x2).ext xW2).only o3 (by omega), by rw [hb3, hN]; exact n3.only o3 (by omega), by omega, by omega, (p2.ext xW2).only o3 (by omega)⟩
  have k1 : rb ≠ g := by omega
  have k2 : b3 ≠ g := by omega
  have k3 : g < rb := by omega
  have k4 : rb < b3 := by omega
  have k5 : rb = w.heap.size := hrb
  have HRB := hide k5
  rw [← hrb, ← hb3]
  have HB3 := hide (show b3 < w3.heap.size by omega)
  have HLOW := hide (show 0 < n → ∀ b off, B = some ⟨b, off, none⟩ → b < w.heap.size from fun h0 b off e => by obtain ⟨b', off', e', h1, _⟩ := hc.2 h0; rw [e] at e'; injection e' with e'; injection e' with e' _; omega)
  have HN := hide hN
  clear d1 d2 d3 r0 p2 n3 cs1 cs3 O03 o1 o3 x2 xW2 cs0 x0 z0 zW2 hz1 hz2 hz3 hrb hb3 k5 cap2 hN hg2
  go_wp2
  go_loopw [5] (fun kv wr => ∃ j, j ≤ K ∧ kv = .int .i64 ((K - j : Nat) : Int) ∧ R1 g B n c s b3 rb N w j wr) (fun kv _ => (intOf kv).toNat)
  case atStart => exact ⟨0, Nat.zero_le _, rfl, st0⟩
  case round =>
    obtain ⟨j, hj, rfl, l, gA, c', hre, hlN, cs, on, e2, e3, hcap, hgA, own⟩ := hrel
    obtain ⟨wq, rfl⟩ : ∃ wq : World, wq = wr := ⟨_, rfl⟩
    have HLN := hide hlN
    clear st0
    by_cases hlt : j < K
    · have hpos : (0 : Int) < ((K - j : Nat) : Int) := by omega
      have q0 : IntKind.i64.wrap (((K - j : Nat) : Int) - 1) = ((K - (j + 1) : Nat) : Int) := by rw [wrap_in _ (by omega) (by omega)]; omega
      go_wp2_with fail
      refine (below_cs g B n c N _ cs hn hne (by omega) (by omega)).mono ?_
      rintro e w4 ⟨i, hi, rfl, cs4, o4⟩
      have hs4 := o4.size
      have hb3 := HB3.out
      have f3 := e3.only o4 k2
      obtain ⟨a1, a2, a3⟩ := f3.cell
      have oA := own.only o4 (by omega)
      have rA : RPts w4 (some ⟨gA, 0, none⟩) l := fun _ => ⟨gA, 0, rfl, Nat.zero_le _, oA.lt, oA.ptsAt⟩
      have hil : i < l.length := by omega
      have bdx := hre.bd _ (g_mem' hil)
      have bx : -3 ≤ gx l i ∧ gx l i ≤ 13 := by omega
      have by' : -3 ≤ gy l i ∧ gy l i ≤ 13 := by omega
      have HIL := hide hil
      clear hlN hil bdx
      go_wp2_with fail
      refine (l04Copy_at gA 0 l c' N _ HLN.out rA (by omega) hcap (by omega)).mono ?_
      rintro e w5 ⟨g5, c5, rfl, cap5, hg5, h5, x5⟩
      have hs5 := x5.size
      obtain ⟨W5, hW5⟩ : ∃ W5, W5 = w5.alloc (.cells #[.slice (some ⟨g5, 0, none⟩) N c5] 26) := ⟨_, rfl⟩
      have xW5 : Ext w5 W5 := by rw [hW5]; (repeat (first | exact Ext.refl _ | assumption | apply Ext.alloc | apply Ext.drew | apply Ext.drewN | (refine Ext.trans ?_ (by assumption))))
      have n7 : OneC W5 w5.heap.size 26 (.slice (some ⟨g5, 0, none⟩) N c5) := by rw [hW5]; exact OneC.new _ _ _
      have zW5 : W5.heap.size = w5.heap.size + 1 := by rw [hW5]; simp
      have P5 := h5.ext xW5
      have csW : CS g B n c W5 := ⟨cur_ext (cur_ext cs4.1 x5) xW5, (cs4.2.ext x5).ext xW5⟩
      obtain ⟨b7, hb7⟩ : ∃ b7, b7 = w5.heap.size := ⟨_, rfl⟩
      rw [← hb7] at n7
      have hb7g : b7 ≠ g := by omega
      have hb7h : w.heap.size + 1 ≤ b7 := by have h1 := e2.cell.1; have h2 := HRB.out; omega
      have hb75 : b7 ≠ g5 := by have h1 := h5.lt; omega
      have hg5q : wq.heap.size ≤ g5 := by omega
      have hg5w : w.heap.size + 1 ≤ g5 := by have h1 := e2.cell.1; have h2 := HRB.out; omega
      have hb3w := f3.cell.1
      have hb7r : b7 ≠ rb := by omega
      have hb7s : b7 ≠ b3 := by omega
      have hg5g : g5 ≠ g := by omega
      have HX1 := hide (show ∀ w', DR g B n c W5 w' → Cur w' g B n c ∧ RB w' B n ∧ w'.cell? ⟨b7, 0, none⟩ = some (.slice (some ⟨g5, 0, none⟩) N c5) ∧ w'.cell? ⟨g5, i * 2, none⟩ = some (.int .i64 (gx l i)) ∧ b7 < w'.heap.size ∧ g5 < w'.heap.size from fun w' hx => ⟨hx.2 csW.1, csW.2.only hx.1 hne, (n7.only hx.1 hb7g).cell.2.1, (P5.only hx.1 hg5g).cellx HIL.out, (n7.only hx.1 hb7g).cell.1, (P5.only hx.1 hg5g).lt⟩)
      have q1 : (i : Int) < (N : Int) := by omega
      have HPR := hide (dr_pre g B n c)
      clear a1 a2 a3 hs4 hs5
      go_wp2_with fail
      rw [← hW5, ← hb7]
      clear hW5 hb7 zW5
      refine wp_flow_tailT HPR.out 13 (by kernel_rfl) (by kernel_rfl) (by kernel_rfl) (by kernel_rfl) (fun u => ⟨#[_, _, _, _, _, _, _, _, _, _, _, _, _, _, _, _, _, _, _, _, _, _, _, _, _, _, _, _, _, _, _, u 0, u 1, u 2, u 3, u 4, u 5, u 6, u 7, u 8, u 9, u 10, u 11, u 12, _, _, _, _, _, _, _, _, _, _, _, _, _, _, _, _, _, _, _, _, _, _, _, _, _, _, _, _, _, _, _, _, _, _, _, _, _, _, _, _, _, _, _, _, _, _, _, _, _, _, _, _, _, _, _, _, _, _, _, _, _, _, _, _, _, _, _, _, _, _, _, _, _], _⟩) (fun i => List.getD [_, _, _, _, _, _, _, _, _, _, _, _, _] i undef) [is ?v1_0, is ?v1_1, is ?v1_2, is ?v1_3, is ?v1_4, is ?v1_5, is ?v1_6, is ?v1_7, is ?v1_8, is ?v1_9, (NumV 3), (SumV (gx l i) 3), (SumV1 (gx l i) 3)] (fun w' => Cur w' g B n c ∧ RB w' B n ∧ w'.cell? ⟨b7, 0, none⟩ = some (.slice (some ⟨g5, 0, none⟩) N c5) ∧ w'.cell? ⟨g5, i * 2, none⟩ = some (.int .i64 (gx l i)) ∧ b7 < w'.heap.size ∧ g5 < w'.heap.size) _ rfl ?hC1 ?hs1 ?hV1 ?fin1
      case hC1 => exact fun w' hx => HX1.out w' hx
      case hs1 =>
        repeat' (first
          | exact TSteps.nil
          | refine TSteps.cons ?_ ?_
          | ((first
              | refine TStep.plain rfl ?_)
             intro u w hW hC hd K hK
             (try simp [vOf, is, Region.binds] at hd)
             simp only [upd, Nat.reduceEqDiff, if_true, if_false] at hK
             (try simp only [hd] at hK)
             (try (obtain ⟨h8, d, hd3, h10⟩ := hd; have hw := wrap_in (gx l i + (d : Int)) (by omega) (by omega); simp only [h8, h10] at hK ⊢))
             (try (obtain ⟨d, hd3, h11⟩ := hd; have hw := wrap_in (gx l i + (d : Int) - 1) (by omega) (by omega); simp only [h11] at hK ⊢))
             go_simp
             (first
               | (refine hK _ _ ?_ ?_; (first | exact rfl | exact ⟨_, hd3, rfl⟩); (exact HPR.out.refl _))
               | (go_at_call 45; refine (below_cs g B n c 3 _ ⟨hC.1, hC.2.1⟩ hn hne (by omega) (by omega)).mono ?_; rintro e w1 ⟨d, hd3, rfl, cs9, o9⟩; (try go_simp); refine hK _ _ ?_ ?_; exact ⟨d, hd3, rfl⟩; exact ⟨o9, fun _ => cs9.1⟩))))
      case hV1 => (simp only [List.forall_mem_cons]; simp [stableT_is, numV_st _ _, sumV_st _ _ _, sumV1_st _ _ _])
      case fin1 =>
        intro u w2 hW2 hC2 hd
        simp only [AllV, is] at hd
        have hs10 := hd.2.2.2.2.2.2.2.2.2.2.1
        have hs11 := hd.2.2.2.2.2.2.2.2.2.2.2.1
        have hs12 := hd.2.2.2.2.2.2.2.2.2.2.2.2.1
        simp only [List.drop_succ_cons, List.drop_zero]
        simp only [hd]
        clear hd
        obtain ⟨d, hd3, hu12⟩ := hs12
        simp only [hu12]
        have P6 := P5.only hW2.1 hg5g
        have n76 := n7.only hW2.1 hb7g
        have cs6 : CS g B n c w2 := ⟨hW2.2 csW.1, csW.2.only hW2.1 hne⟩
        have oq6 : Only g wq w2 := ((o4.ext x5).ext xW5).trans hW2.1
        have cx := P6.cellx HIL.out
        have fz := P6.frozen (i * 2)
        have gl := P6.lt
        have hbx : -1 ≤ (d : Int) - 1 ∧ (d : Int) - 1 ≤ 1 := by omega
        obtain ⟨W6, hW6⟩ : ∃ W6, W6 = w2.setCell ⟨g5, i * 2, none⟩ (.int .i64 (gx l i + (d : Int) - 1)) := ⟨_, rfl⟩
        have e6 : gx l i + (d : Int) - 1 = gx l i + ((d : Int) - 1) := by omega
        have P7 : OwnP W6 g5 38 (l.set i (gx l i + ((d : Int) - 1), gy l i)) := by rw [hW6, e6]; exact P6.setX HIL.out _
        have n77 : OneC W6 b7 26 (.slice (some ⟨g5, 0, none⟩) N c5) := by rw [hW6]; exact n76.far hb75 _
        have cs7 : CS g B n c W6 := by rw [hW6]; exact ⟨cur_set cs6.1 (fun e => hg5g e.symm) _, rb_set cs6.2 (fun h0 b off e e2 => by have := HLOW.out h0 b off e; simp at e2; omega) _⟩
        have oq7 : Only g wq W6 := by rw [hW6]; exact oq6.setNew hg5q _ _
        have HP7 := hide P7
        have HN7 := hide n77
        have HC7 := hide cs7
        have HO7 := hide oq7
        have hil2 : i < (l.set i (gx l i + ((d : Int) - 1), gy l i)).length := by rw [List.length_set]; exact HIL.out
        have HIL2 := hide hil2
        have HX2 := hide (show ∀ w', DR g B n c W6 w' → Cur w' g B n c ∧ RB w' B n ∧ w'.cell? ⟨b7, 0, none⟩ = some (.slice (some ⟨g5, 0, none⟩) N c5) ∧ w'.cell? ⟨g5, i * 2 + 1, none⟩ = some (.int .i64 (gy l i)) ∧ b7 < w'.heap.size ∧ g5 < w'.heap.size from fun w' hx => ⟨hx.2 cs7.1, cs7.2.only hx.1 hne, (n77.only hx.1 hb7g).cell.2.1, by have h := (P7.only hx.1 hg5g).celly hil2; rwa [gy_set l i i _ _ HIL.out, if_pos rfl] at h, (n77.only hx.1 hb7g).cell.1, (P7.only hx.1 hg5g).lt⟩)
        have HHW6 := hide hW6
        clear hu12 hC2 hW2 hil2 e6 P7 n77 cs7 oq7 cs6 oq6 n76 hW6 x5 xW5 o4 P5 n7 csW HX1 h5 P6
        go_wp2_with fail
        rw [← HHW6.out]
        clear HHW6 cx fz gl
        refine wp_flow_tailT HPR.out 13 (by kernel_rfl) (by kernel_rfl) (by kernel_rfl) (by kernel_rfl) (fun u => ⟨#[_, _, _, _, _, _, _, _, _, _, _, _, _, _, _, _, _, _, _, _, _, _, _, _, _, _, _, _, _, _, _, _, _, _, _, _, _, _, _, _, _, _, _, _, _, _, u 0, u 1, u 2, u 3, u 4, u 5, u 6, u 7, u 8, u 9, u 10, u 11, u 12, _, _, _, _, _, _, _, _, _, _, _, _, _, _, _, _, _, _, _, _, _, _, _, _, _, _, _, _, _, _, _, _, _, _, _, _, _, _, _, _, _, _, _, _, _, _, _, _, _, _, _, _, _, _, _, _, _, _], _⟩) (fun i => List.getD [_, _, _, _, _, _, _, _, _, _, _, _, _] i undef) [is ?v2_0, is ?v2_1, is ?v2_2, is ?v2_3, is ?v2_4, is ?v2_5, is ?v2_6, is ?v2_7, is ?v2_8, is ?v2_9, (NumV 3), (SumV (gy l i) 3), (SumV1 (gy l i) 3)] (fun w' => Cur w' g B n c ∧ RB w' B n ∧ w'.cell? ⟨b7, 0, none⟩ = some (.slice (some ⟨g5, 0, none⟩) N c5) ∧ w'.cell? ⟨g5, i * 2 + 1, none⟩ = some (.int .i64 (gy l i)) ∧ b7 < w'.heap.size ∧ g5 < w'.heap.size) _ rfl ?hC2 ?hs2 ?hV2 ?fin2
        case hC2 => exact fun w' hx => HX2.out w' hx
        case hs2 =>
          repeat' (first
            | exact TSteps.nil
            | refine TSteps.cons ?_ ?_
            | ((first
                | refine TStep.plain rfl ?_)
               intro u w hW hC hd K hK
               (try simp [vOf, is, Region.binds] at hd)
               simp only [upd, Nat.reduceEqDiff, if_true, if_false] at hK
               (try simp only [hd] at hK)
               (try (obtain ⟨h8, d, hd3, h10⟩ := hd; have hw := wrap_in (gy l i + (d : Int)) (by omega) (by omega); simp only [h8, h10] at hK ⊢))
               (try (obtain ⟨d, hd3, h11⟩ := hd; have hw := wrap_in (gy l i + (d : Int) - 1) (by omega) (by omega); simp only [h11] at hK ⊢))
               go_simp
               (first
                 | (refine hK _ _ ?_ ?_; (first | exact rfl | exact ⟨_, hd3, rfl⟩); (exact HPR.out.refl _))
                 | (go_at_call 45; refine (below_cs g B n c 3 _ ⟨hC.1, hC.2.1⟩ hn hne (by omega) (by omega)).mono ?_; rintro e w1 ⟨d, hd3, rfl, cs9, o9⟩; (try go_simp); refine hK _ _ ?_ ?_; exact ⟨d, hd3, rfl⟩; exact ⟨o9, fun _ => cs9.1⟩))))
        case hV2 => (simp only [List.forall_mem_cons]; simp [stableT_is, numV_st _ _, sumV_st _ _ _, sumV1_st _ _ _])
        case fin2 =>
          intro u w2 hW2 hC2 hd
          simp only [AllV, is] at hd
          have hs10 := hd.2.2.2.2.2.2.2.2.2.2.1
          have hs11 := hd.2.2.2.2.2.2.2.2.2.2.2.1
          have hs12 := hd.2.2.2.2.2.2.2.2.2.2.2.2.1
          simp only [List.drop_succ_cons, List.drop_zero]
          simp only [hd]
          clear hd
          obtain ⟨d', hd3', hu12⟩ := hs12
          simp only [hu12]
          have P6 := HP7.out.only hW2.1 hg5g
          have n76 := HN7.out.only hW2.1 hb7g
          have cs6 : CS g B n c w2 := ⟨hW2.2 HC7.out.1, HC7.out.2.only hW2.1 hne⟩
          have oq6 : Only g wq w2 := HO7.out.trans hW2.1
          have cx := P6.celly HIL2.out
          have fz := P6.frozen (i * 2 + 1)
          have gl := P6.lt
          have hby : -1 ≤ (d' : Int) - 1 ∧ (d' : Int) - 1 ≤ 1 := by omega
          obtain ⟨W7, hW7⟩ : ∃ W7, W7 = w2.setCell ⟨g5, i * 2 + 1, none⟩ (.int .i64 (gy l i + (d' : Int) - 1)) := ⟨_, rfl⟩
          have e6 : gy l i + (d' : Int) - 1 = gy l i + ((d' : Int) - 1) := by omega
          have P7 : OwnP W7 g5 38 (mvd l i ((d : Int) - 1) ((d' : Int) - 1)) := by rw [hW7, e6, ← mvd_set HIL.out]; exact P6.setY HIL2.out _
          have n77 : OneC W7 b7 26 (.slice (some ⟨g5, 0, none⟩) N c5) := by rw [hW7]; exact n76.far hb75 _
          have cs7 : CS g B n c W7 := by rw [hW7]; exact ⟨cur_set cs6.1 (fun e => hg5g e.symm) _, rb_set cs6.2 (fun h0 b off e e2 => by have := HLOW.out h0 b off e; simp at e2; omega) _⟩
          have oq7 : Only g wq W7 := by rw [hW7]; exact oq6.setNew hg5q _ _
          have HHW7 := hide hW7
          obtain ⟨r1, r2, r3⟩ := n76.cell
          have hb57 : ¬ g5 = b7 := fun e => hb75 e.symm
          have hb75' : ¬ b7 = g5 := hb75
          clear hu12 hC2 hW2 e6 cs6 oq6 n76 hW7 P6 HX2 HP7 HN7 HC7 HO7
          go_wp2_with fail
          rw [← HHW7.out]
          clear HHW7 cx fz gl
          obtain ⟨lm, hlm⟩ : ∃ lm, lm = mvd l i ((d : Int) - 1) ((d' : Int) - 1) := ⟨_, rfl⟩
          rw [← hlm] at P7
          have hlmN : lm.length = N := by rw [hlm, mvd_length]; exact HLN.out
          have HLM := hide hlm
          have HLMN := hide hlmN
          clear hlm hlmN
          clear r1 r2 r3
          refine (sRoomOk_at g5 lm c5 N _ HLMN.out P7 (by omega)).mono ?_
          rintro e w8 ⟨rfl, x8⟩
          have n78 := n77.ext x8
          have P8 := P7.ext x8
          have oq8 : Only g wq w8 := oq7.ext x8
          have cs8 : CS g B n c w8 := ⟨cur_ext cs7.1 x8, cs7.2.ext x8⟩
          have E2 := e2.only oq8 k1
          have E3 := e3.only oq8 k2
          have OA := own.only oq8 (by omega)
          have ON : Only g w w8 := on.trans oq8
          obtain ⟨r1, r2, r3⟩ := n78.cell
          obtain ⟨s1, s2, s3⟩ := E3.cell
          have hb7s' : ¬ b7 = b3 := hb7s
          have hbs7 : ¬ b3 = b7 := fun e => hb7s e.symm
          have HE2 := hide E2
          have HE3 := hide E3
          have HOA := hide OA
          have HON := hide ON
          have HCS := hide cs8
          have HP8 := hide P8
          clear n77 n78 P7 P8 oq7 oq8 cs7 cs8 E2 E3 OA ON x8 e2 e3 own on cs
          cases hr : roomB lm
          · go_wp2
            go_roundw
            case rel => exact ⟨j + 1, by omega, by first | rfl | (go_num; done) | (simp [q0]; done), l, gA, c', hre.stay, HLN.out, HCS.out, HON.out, HE2.out, HE3.out, hcap, hgA, HOA.out⟩
            case measure => simp [intOf]; omega
          · go_wp2
            go_roundw
            case rel =>
              refine ⟨j + 1, by omega, by first | rfl | (go_num; done) | (simp [q0]; done), lm, g5, c5, ?_, HLMN.out, ⟨cur_set HCS.out.1 (fun e => k2 e.symm) _, rb_set HCS.out.2 (fun h0 b off e e2 => by have := HLOW.out h0 b off e; have := HRB.out; simp at e2; omega) _⟩, HON.out.setNew (by have := HRB.out; omega) _ _, HE2.out.far (by simp; omega) _, HE3.out.set _, cap5, hg5w, HP8.out.far (by simp; omega) _⟩
              rw [HLM.out] at hr ⊢
              exact Reach.move hre HIL.out hbx hby hr
            case measure => simp [intOf]; omega
    · have hpos : ¬ (0 : Int) < ((K - j : Nat) : Int) := by omega
      have e0 : K - j = 0 := by omega
      go_wp2_with fail
      obtain ⟨W8, hW8⟩ : ∃ W8, W8 = wq.alloc (.cells #[.slice none 0 0] 26) := ⟨_, rfl⟩
      have xW8 : Ext wq W8 := by rw [hW8]; (repeat (first | exact Ext.refl _ | assumption | apply Ext.alloc | apply Ext.drew | apply Ext.drewN | (refine Ext.trans ?_ (by assumption))))
      have n8 : OneC W8 wq.heap.size 26 (.slice none 0 0) := by rw [hW8]; exact OneC.new _ _ _
      rw [← hW8]
      clear hW8
      refine (below_cs g B n c 4 W8 ⟨cur_ext cs.1 xW8, cs.2.ext xW8⟩ hn hne (by omega) (by omega)).mono ?_
      rintro e w4 ⟨tt, htt, rfl, cs4, o4⟩
      go_wp2_with fail
      refine (below_cs g B n c N w4 cs4 hn hne (by omega) (by omega)).mono ?_
      rintro e w5 ⟨m, hm, rfl, cs5, o5⟩
      go_wp2_with fail
      refine (below_cs g B n c 5 w5 cs5 hn hne (by omega) (by omega)).mono ?_
      rintro e w6 ⟨dd, hdd, rfl, cs6, o6⟩
      have oq : Only g wq w6 := (((Only.of_ext xW8).trans o4).trans o5).trans o6
      obtain ⟨b8, hb8⟩ : ∃ b8, b8 = wq.heap.size := ⟨_, rfl⟩
      have h38 : b3 < b8 := by rw [hb8]; exact e3.cell.1
      have hA8 : gA < b8 := by rw [hb8]; exact own.lt
      have h8g : b8 ≠ g := by omega
      have HW8 := hide (show w.heap.size ≤ b8 by rw [hb8]; exact on.size)
      have s8 := (n8.only ((o4.trans o5).trans o6) (by omega))
      rw [← hb8] at s8 ⊢
      have wdx := wrap_in ((dd : Int) - 2) (by omega) (by omega)
      have bdx : -2 ≤ (dd : Int) - 2 ∧ (dd : Int) - 2 ≤ 2 := by omega
      have st0 : R2 g B n c b3 rb b8 N gA c' l m tt ((dd : Int) - 2) w 0 w6 := ⟨.slice none 0 0, cs6, on.trans oq, e2.only oq k1, e3.only oq k2, own.only oq (by omega), s8, ⟨rfl, .inl ⟨rfl, rfl⟩⟩⟩
      clear s8 n8 cs4 cs5 cs6 o4 o5 o6 oq xW8 hb8 cs on e2 e3 own
      obtain ⟨i0, hI, hZ, hS, hY⟩ := info_parts info_ipt
      have HLN := hide hlN
      have HBD := hide (show ∀ q, q < N → (-3 ≤ gx l q ∧ gx l q ≤ 13) ∧ (-3 ≤ gy l q ∧ gy l q ≤ 13) from fun q hq => by have h1 := hre.bd _ (g_mem' (l := l) (k := q) (by omega)); simp only at h1; omega)
      clear hlN
      go_wp2
      go_loopw [12] (fun kv wr => ∃ k : Nat, k ≤ N ∧ kv = .int .i64 (k : Int) ∧ R2 g B n c b3 rb b8 N gA c' l m tt ((dd : Int) - 2) w k wr) (fun kv _ => N - (intOf kv).toNat)
      case atStart => exact ⟨0, Nat.zero_le _, rfl, st0⟩
      case round =>
        obtain ⟨k, hk, rfl, v, cs, on, e2, e3, own, e8, hown⟩ := hrel
        obtain ⟨wp, rfl⟩ : ∃ wp : World, wp = wr := ⟨_, rfl⟩
        clear st0
        by_cases hkl : k < N
        · obtain ⟨mm, hmm⟩ : ∃ q : Nat, q = (m + k) % l.length := ⟨_, rfl⟩
          have hml : mm < N := by rw [hmm, HLN.out]; exact Nat.mod_lt _ (by omega)
          have r0 : IntKind.i64.wrap ((m : Int) + (k : Int)) = (m : Int) + (k : Int) := wrap_in _ (by omega) (by omega)
          have r1 : ((m : Int) + (k : Int)) % (N : Int) = (mm : Int) := by rw [hmm, HLN.out]; simp
          have r2 : ((m : Int) + (k : Int)).tmod (N : Int) = (mm : Int) := by rw [Int.tmod_eq_emod_of_nonneg (by omega)]; exact r1
          have HMM := hide hmm
          have HRS := hide (show flat ((rotL l m (k + 1)).map (trn tt ((dd : Int) - 2))) = flat ((rotL l m k).map (trn tt ((dd : Int) - 2))) ++ [.int .i64 (trn tt ((dd : Int) - 2) (gx l mm, gy l mm)).1, .int .i64 (trn tt ((dd : Int) - 2) (gx l mm, gy l mm)).2] by rw [rotL_succ, List.map_append, flat_append, ← hmm]; rfl)
          obtain ⟨bx, by'⟩ := HBD.out mm hml
          have hmlL : mm < l.length := by rw [HLN.out]; exact hml
          have cx := own.cellx hmlL
          have cy := own.celly hmlL
          have i1 : (0 : Int) ≤ (mm : Int) := by omega
          have i2 : (mm : Int) < (N : Int) := by omega
          have i3 : ((N : Int) == 0) = false := by simp only [beq_eq_false_iff_ne]; omega
          have i4 : ¬ (N : Int) = 0 := by omega
          have i5 : ¬ N = 0 := by omega
          have z3 := e3.cell
          have zA := own.lt
          have HXC := hide (show ∀ w', Ext wp w' → wp.heap.size ≤ w'.heap.size ∧ w'.cell? ⟨b3, 0, none⟩ = some (.slice (some ⟨gA, 0, none⟩) N c') ∧ w'.cell? ⟨gA, mm * 2, none⟩ = some (.int .i64 (gx l mm)) ∧ w'.cell? ⟨gA, mm * 2 + 1, none⟩ = some (.int .i64 (gy l mm)) ∧ b3 < w'.heap.size ∧ gA < w'.heap.size from fun w' hx => ⟨hx.size, (hx.cells _ _ z3.1).trans z3.2.1, (hx.cells _ _ zA).trans cx, (hx.cells _ _ zA).trans cy, Nat.lt_of_lt_of_le z3.1 hx.size, Nat.lt_of_lt_of_le zA hx.size⟩)
          clear hmm cx cy z3 zA hmlL
          go_wp2
          refine wp_flow_tail 10 (by kernel_rfl) (by kernel_rfl) (by kernel_rfl) (by kernel_rfl) (fun u => ⟨#[_, _, _, _, _, _, _, _, _, _, _, _, _, u 9, _, _, _, _, _, _, _, _, _, _, _, _, _, _, _, _, _, _, _, _, _, _, _, _, _, _, _, _, _, _, _, _, _, _, _, _, _, _, _, _, _, _, _, _, _, _, _, _, _, _, _, _, _, _, _, _, _, _, _, _, _, _, _, _, u 0, u 1, u 2, u 3, u 4, u 5, u 6, u 7, u 8, _, _, _, _, _, _, _, _, _, _, _, _, _, _, _, _, _, _, _, _, _, _, _, _, _, _, _, _, _, _], _⟩) (fun i => List.getD [_, _, _, _, _, _, _, _, _, _] i undef) [is ?v3_0, is ?v3_1, is ?v3_2, is ?v3_3, is ?v3_4, is ?v3_5, is ?v3_6, is ?v3_7, is ?v3_8, (BoxP wp.heap.size)] (fun w' => wp.heap.size ≤ w'.heap.size ∧ w'.cell? ⟨b3, 0, none⟩ = some (.slice (some ⟨gA, 0, none⟩) N c') ∧ w'.cell? ⟨gA, mm * 2, none⟩ = some (.int .i64 (gx l mm)) ∧ w'.cell? ⟨gA, mm * 2 + 1, none⟩ = some (.int .i64 (gy l mm)) ∧ b3 < w'.heap.size ∧ gA < w'.heap.size) _ rfl ?hC3 ?hs3 ?hV3 ?fin3
          case hC3 => exact fun w' hx => HXC.out w' hx
          case hs3 =>
            repeat' (first
              | exact FSteps.nil
              | refine FSteps.cons ?_ ?_
              | (refine FStep.off_ _ _ _ rfl rfl ?_ (fun _ => rfl) ?_; (focus (intro u w hd; simp [vOf, is, Region.binds] at hd; simp [hd])); (intro w'; exact rfl); done)
              | ((first
                  | refine FStep.plain rfl ?_
                  | (refine FStep.on_ _ _ _ rfl rfl ?_ ?_; (focus (intro u w hd; simp [vOf, is, Region.binds] at hd; simp [hd]))))
                 intro u w hW hC hd K hK
                 (try simp [vOf, is, Region.binds] at hd)
                 simp only [upd, Nat.reduceEqDiff, if_true, if_false] at hK
                 (try simp only [hd] at hK)
                 go_simp
                 (first
                   | (refine hK _ _ ?_ ?_; (first | exact rfl | exact BoxP_new _ hC.1); (repeat (first | exact Ext.refl _ | assumption | apply Ext.alloc | apply Ext.drew | apply Ext.drewN | (refine Ext.trans ?_ (by assumption))))))))
          case hV3 => (simp only [List.forall_mem_cons]; simp [stable_is, BoxP_stable])
          case fin3 =>
            intro u w2 hW2 hC2 hd
            simp only [AllV, is] at hd
            have hs9 := hd.2.2.2.2.2.2.2.2.2.1
            simp only [List.drop_succ_cons, List.drop_zero]
            simp only [hd]
            clear hd
            obtain ⟨bp, hu9, hbp, p9⟩ := hs9
            simp only [hu9]
            have hx2 : Ext wp w2 := by (repeat (first | exact Ext.refl _ | assumption | apply Ext.alloc | apply Ext.drew | apply Ext.drewN | (refine Ext.trans ?_ (by assumption))))
            obtain ⟨p1, p2, p3, p4, p5⟩ := p9.cells
            have q1 : ¬ b3 = bp := by have h1 := e3.cell.1; omega
            have q2 : ¬ b8 = bp := by have h1 := e8.cell.1; omega
            have htc : tt = 0 ∨ tt = 1 ∨ tt = 2 ∨ tt = 3 := by omega
            clear htt
            rcases htc with htc | htc | htc | htc
            all_goals
              have b1 : ((tt : Int) == 1) = _ := congrArg (fun z : Nat => ((z : Int) == 1)) htc
              have b2 : ((tt : Int) == 2) = _ := congrArg (fun z : Nat => ((z : Int) == 2)) htc
              have HTC := hide htc
              clear htc
            · have b1 : ((tt : Int) == 1) = false := b1
              have b2 : ((tt : Int) == 2) = false := b2
              go_upto_region 26 with (fail)
              obtain ⟨wz, hwz⟩ : ∃ wz, wz = ((w2.setCell ⟨bp, 0, none⟩ (.int .i64 (gx l mm))).setCell ⟨bp, 1, none⟩ (.int .i64 (gy l mm))).setCell ⟨bp, 0, none⟩ (.int .i64 (gx l mm + ((dd : Int) - 2))) := ⟨_, rfl⟩
              have PZ : PtC wz bp (gx l mm + ((dd : Int) - 2)) (gy l mm) := by rw [hwz]; exact (p9.set _ _).setX _
              have OZ : Only bp w2 wz := by rw [hwz]; exact (((Only.refl w2).set _ _).set _ _).set _ _
              have HTR := hide (show trn tt ((dd : Int) - 2) (gx l mm, gy l mm) = (gx l mm + ((dd : Int) - 2), gy l mm) by rw [HTC.out]; rfl)
              rw [← hwz]
              clear hwz p9 p1 p2 p3 p4 p5 hC2 hW2
              have G := (cur_only (cur_ext cs.1 hx2) OZ (by have := on.size; omega))
              have G2 := ((cs.2.ext hx2).only OZ (fun h0 b off e => by have := HLOW.out h0 b off e; have := on.size; omega))
              have ONZ : Only g w wz := only_two (on.ext hx2) OZ (by have := on.size; omega)
              have E2 := (e2.ext hx2).only OZ (by have := e2.cell.1; omega)
              have E3 := (e3.ext hx2).only OZ (by have := e3.cell.1; omega)
              have OA := (own.ext hx2).only OZ (by have := own.lt; omega)
              have E8 := (e8.ext hx2).only OZ (by have := e8.cell.1; omega)
              have OW := ownsRow_onlyB (ownsRow_ext hown hx2) OZ (fun e => by have := (hown.lt _ e).2; omega)
              obtain ⟨p1, p2, p3, p4, p5⟩ := PZ.cells
              obtain ⟨t1, t2, t3⟩ := E8.cell
              have HG := hide (show CS g B n c wz from ⟨G, G2⟩)
              have HON := hide ONZ
              have HE2 := hide E2
              have HE3 := hide E3
              have HOA := hide OA
              have HE8 := hide E8
              have hzs : b8 < wz.heap.size := t1
              clear G G2 ONZ E2 E3 OA E8 cs on e2 e3 own e8 hown OZ hx2 p4 p5
              go_wp2_with (at_builtin; refine wpList_app _ rfl (.tmp 111) (.tmp 113) _ rfl (b8 + 1) 38 i0 _ 2 16 Try.underlying24 hI hZ hS hY rfl (by omega) _ k (flat ((rotL l m k).map (trn tt ((dd : Int) - 2)))) (by rfl) (ownsRow_ext OW (by (repeat (first | exact Ext.refl _ | assumption | apply Ext.alloc | apply Ext.drew | apply Ext.drewN | (refine Ext.trans ?_ (by assumption)))))) ⟨wz.heap.size, 0, none⟩ 1 1 [.int .i64 (gx l mm + ((dd : Int) - 2)), .int .i64 (gy l mm)] (by rfl) rfl (news_alloc wz [.int .i64 (gx l mm + ((dd : Int) - 2)), .int .i64 (gy l mm)] 38) (by simp [Value.oneCell']) (by unfold maxLen; omega) (by omega) (by simp; omega) ?_; intro v' w9 hown9 hg9 _; obtain ⟨A9, c9, rfl⟩ := ownsRow_slice hown9; have hr9 : ∀ q, v.ownBlock = some q → b8 + 1 ≤ q := fun q hq => (OW.lt q hq).1; have E9 := (HE8.out.ext (show Ext wz (wz.alloc (.cells #[.int .i64 (gx l mm + ((dd : Int) - 2)), .int .i64 (gy l mm)] 38)) by (repeat (first | exact Ext.refl _ | assumption | apply Ext.alloc | apply Ext.drew | apply Ext.drewN | (refine Ext.trans ?_ (by assumption)))))).grown' hg9 (fun e => by have := hr9 _ e; omega); obtain ⟨y1, y2, y3⟩ := E9.cell)
              have xz : Ext wz (wz.alloc (.cells #[.int .i64 (gx l mm + ((dd : Int) - 2)), .int .i64 (gy l mm)] 38)) := by (repeat (first | exact Ext.refl _ | assumption | apply Ext.alloc | apply Ext.drew | apply Ext.drewN | (refine Ext.trans ?_ (by assumption))))
              have K1 := hide (cur_set (cur_grown (cur_ext HG.out.1 xz) hg9 (fun e => by have := hr9 _ e; omega)) (p := ⟨b8, 0, none⟩) (fun e => h8g e.symm) (.slice A9 (k + 1) c9))
              have K2 := hide (rb_set (rb_grown (HG.out.2.ext xz) hg9 (fun h0 b off e e2 => by have h1 := HLOW.out h0 b off e; have h2 := hr9 _ e2; have h3 := HW8.out; omega)) (p := ⟨b8, 0, none⟩) (fun h0 b off e e2 => by have h1 := HLOW.out h0 b off e; have h3 := HW8.out; simp at e2; omega) (.slice A9 (k + 1) c9))
              have K3 := hide ((only_grown (HON.out.ext xz) hg9 (fun q hq => by have := hr9 q hq; have h3 := HW8.out; omega)).setNew (q := b8) HW8.out 0 (.slice A9 (k + 1) c9))
              have K4 := hide (((HE2.out.ext xz).grown' hg9 (fun e => by have := hr9 _ e; omega)).far (p := ⟨b8, 0, none⟩) (by simp; omega) (.slice A9 (k + 1) c9))
              have K5 := hide (((HE3.out.ext xz).grown' hg9 (fun e => by have := hr9 _ e; omega)).far (p := ⟨b8, 0, none⟩) (by simp; omega) (.slice A9 (k + 1) c9))
              have K6 := hide (((HOA.out.ext xz).grown hg9 (fun e => by have := hr9 _ e; omega)).far (p := ⟨b8, 0, none⟩) (by simp; omega) (.slice A9 (k + 1) c9))
              have K7 := hide (E9.set (.slice A9 (k + 1) c9))
              have K8 := hide (ownsRow_set hown9 (p := ⟨b8, 0, none⟩) (by show b8 < b8 + 1; omega) (.slice A9 (k + 1) c9))
              clear hown9 hg9 hr9 E9 OW xz
              go_roundw
              case rel => exact ⟨k + 1, by omega, by go_num, _, ⟨K1.out, K2.out⟩, K3.out, K4.out, K5.out, K6.out, K7.out, by rw [HRS.out, HTR.out]; exact K8.out⟩
              case measure => simp [intOf]; omega
            · have b1 : ((tt : Int) == 1) = true := b1
              go_upto_region 26 with (fail)
              obtain ⟨wz, hwz⟩ : ∃ wz, wz = ((((w2.setCell ⟨bp, 0, none⟩ (.int .i64 (gx l mm))).setCell ⟨bp, 1, none⟩ (.int .i64 (gy l mm))).setCell ⟨bp, 0, none⟩ (.int .i64 (-gy l mm))).setCell ⟨bp, 1, none⟩ (.int .i64 (gx l mm))).setCell ⟨bp, 0, none⟩ (.int .i64 (-gy l mm + ((dd : Int) - 2))) := ⟨_, rfl⟩
              have PZ : PtC wz bp (-gy l mm + ((dd : Int) - 2)) (gx l mm) := by rw [hwz]; exact ((p9.set _ _).set _ _).setX _
              have OZ : Only bp w2 wz := by rw [hwz]; exact (((((Only.refl w2).set _ _).set _ _).set _ _).set _ _).set _ _
              have HTR := hide (show trn tt ((dd : Int) - 2) (gx l mm, gy l mm) = (-gy l mm + ((dd : Int) - 2), gx l mm) by rw [HTC.out]; rfl)
              rw [← hwz]
              clear hwz p9 p1 p2 p3 p4 p5 hC2 hW2
              have G := (cur_only (cur_ext cs.1 hx2) OZ (by have := on.size; omega))
              have G2 := ((cs.2.ext hx2).only OZ (fun h0 b off e => by have := HLOW.out h0 b off e; have := on.size; omega))
              have ONZ : Only g w wz := only_two (on.ext hx2) OZ (by have := on.size; omega)
              have E2 := (e2.ext hx2).only OZ (by have := e2.cell.1; omega)
              have E3 := (e3.ext hx2).only OZ (by have := e3.cell.1; omega)
              have OA := (own.ext hx2).only OZ (by have := own.lt; omega)
              have E8 := (e8.ext hx2).only OZ (by have := e8.cell.1; omega)
              have OW := ownsRow_onlyB (ownsRow_ext hown hx2) OZ (fun e => by have := (hown.lt _ e).2; omega)
              obtain ⟨p1, p2, p3, p4, p5⟩ := PZ.cells
              obtain ⟨t1, t2, t3⟩ := E8.cell
              have HG := hide (show CS g B n c wz from ⟨G, G2⟩)
              have HON := hide ONZ
              have HE2 := hide E2
              have HE3 := hide E3
              have HOA := hide OA
              have HE8 := hide E8
              have hzs : b8 < wz.heap.size := t1
              clear G G2 ONZ E2 E3 OA E8 cs on e2 e3 own e8 hown OZ hx2 p4 p5
              go_wp2_with (at_builtin; refine wpList_app _ rfl (.tmp 111) (.tmp 113) _ rfl (b8 + 1) 38 i0 _ 2 16 Try.underlying24 hI hZ hS hY rfl (by omega) _ k (flat ((rotL l m k).map (trn tt ((dd : Int) - 2)))) (by rfl) (ownsRow_ext OW (by (repeat (first | exact Ext.refl _ | assumption | apply Ext.alloc | apply Ext.drew | apply Ext.drewN | (refine Ext.trans ?_ (by assumption)))))) ⟨wz.heap.size, 0, none⟩ 1 1 [.int .i64 (-gy l mm + ((dd : Int) - 2)), .int .i64 (gx l mm)] (by rfl) rfl (news_alloc wz [.int .i64 (-gy l mm + ((dd : Int) - 2)), .int .i64 (gx l mm)] 38) (by simp [Value.oneCell']) (by unfold maxLen; omega) (by omega) (by simp; omega) ?_; intro v' w9 hown9 hg9 _; obtain ⟨A9, c9, rfl⟩ := ownsRow_slice hown9; have hr9 : ∀ q, v.ownBlock = some q → b8 + 1 ≤ q := fun q hq => (OW.lt q hq).1; have E9 := (HE8.out.ext (show Ext wz (wz.alloc (.cells #[.int .i64 (-gy l mm + ((dd : Int) - 2)), .int .i64 (gx l mm)] 38)) by (repeat (first | exact Ext.refl _ | assumption | apply Ext.alloc | apply Ext.drew | apply Ext.drewN | (refine Ext.trans ?_ (by assumption)))))).grown' hg9 (fun e => by have := hr9 _ e; omega); obtain ⟨y1, y2, y3⟩ := E9.cell)
              have xz : Ext wz (wz.alloc (.cells #[.int .i64 (-gy l mm + ((dd : Int) - 2)), .int .i64 (gx l mm)] 38)) := by (repeat (first | exact Ext.refl _ | assumption | apply Ext.alloc | apply Ext.drew | apply Ext.drewN | (refine Ext.trans ?_ (by assumption))))
              have K1 := hide (cur_set (cur_grown (cur_ext HG.out.1 xz) hg9 (fun e => by have := hr9 _ e; omega)) (p := ⟨b8, 0, none⟩) (fun e => h8g e.symm) (.slice A9 (k + 1) c9))
              have K2 := hide (rb_set (rb_grown (HG.out.2.ext xz) hg9 (fun h0 b off e e2 => by have h1 := HLOW.out h0 b off e; have h2 := hr9 _ e2; have h3 := HW8.out; omega)) (p := ⟨b8, 0, none⟩) (fun h0 b off e e2 => by have h1 := HLOW.out h0 b off e; have h3 := HW8.out; simp at e2; omega) (.slice A9 (k + 1) c9))
              have K3 := hide ((only_grown (HON.out.ext xz) hg9 (fun q hq => by have := hr9 q hq; have h3 := HW8.out; omega)).setNew (q := b8) HW8.out 0 (.slice A9 (k + 1) c9))
              have K4 := hide (((HE2.out.ext xz).grown' hg9 (fun e => by have := hr9 _ e; omega)).far (p := ⟨b8, 0, none⟩) (by simp; omega) (.slice A9 (k + 1) c9))
              have K5 := hide (((HE3.out.ext xz).grown' hg9 (fun e => by have := hr9 _ e; omega)).far (p := ⟨b8, 0, none⟩) (by simp; omega) (.slice A9 (k + 1) c9))
              have K6 := hide (((HOA.out.ext xz).grown hg9 (fun e => by have := hr9 _ e; omega)).far (p := ⟨b8, 0, none⟩) (by simp; omega) (.slice A9 (k + 1) c9))
              have K7 := hide (E9.set (.slice A9 (k + 1) c9))
              have K8 := hide (ownsRow_set hown9 (p := ⟨b8, 0, none⟩) (by show b8 < b8 + 1; omega) (.slice A9 (k + 1) c9))
              clear hown9 hg9 hr9 E9 OW xz
              go_roundw
              case rel => exact ⟨k + 1, by omega, by go_num, _, ⟨K1.out, K2.out⟩, K3.out, K4.out, K5.out, K6.out, K7.out, by rw [HRS.out, HTR.out]; exact K8.out⟩
              case measure => simp [intOf]; omega
            · have b1 : ((tt : Int) == 1) = false := b1
              have b2 : ((tt : Int) == 2) = true := b2
              go_upto_region 26 with (fail)
              obtain ⟨wz, hwz⟩ : ∃ wz, wz = ((((w2.setCell ⟨bp, 0, none⟩ (.int .i64 (gx l mm))).setCell ⟨bp, 1, none⟩ (.int .i64 (gy l mm))).setCell ⟨bp, 0, none⟩ (.int .i64 (-gx l mm))).setCell ⟨bp, 1, none⟩ (.int .i64 (-gy l mm))).setCell ⟨bp, 0, none⟩ (.int .i64 (-gx l mm + ((dd : Int) - 2))) := ⟨_, rfl⟩
              have PZ : PtC wz bp (-gx l mm + ((dd : Int) - 2)) (-gy l mm) := by rw [hwz]; exact ((p9.set _ _).set _ _).setX _
              have OZ : Only bp w2 wz := by rw [hwz]; exact (((((Only.refl w2).set _ _).set _ _).set _ _).set _ _).set _ _
              have HTR := hide (show trn tt ((dd : Int) - 2) (gx l mm, gy l mm) = (-gx l mm + ((dd : Int) - 2), -gy l mm) by rw [HTC.out]; rfl)
              rw [← hwz]
              clear hwz p9 p1 p2 p3 p4 p5 hC2 hW2
              have G := (cur_only (cur_ext cs.1 hx2) OZ (by have := on.size; omega))
              have G2 := ((cs.2.ext hx2).only OZ (fun h0 b off e => by have := HLOW.out h0 b off e; have := on.size; omega))
              have ONZ : Only g w wz := only_two (on.ext hx2) OZ (by have := on.size; omega)
              have E2 := (e2.ext hx2).only OZ (by have := e2.cell.1; omega)
              have E3 := (e3.ext hx2).only OZ (by have := e3.cell.1; omega)
              have OA := (own.ext hx2).only OZ (by have := own.lt; omega)
              have E8 := (e8.ext hx2).only OZ (by have := e8.cell.1; omega)
              have OW := ownsRow_onlyB (ownsRow_ext hown hx2) OZ (fun e => by have := (hown.lt _ e).2; omega)
              obtain ⟨p1, p2, p3, p4, p5⟩ := PZ.cells
              obtain ⟨t1, t2, t3⟩ := E8.cell
              have HG := hide (show CS g B n c wz from ⟨G, G2⟩)
              have HON := hide ONZ
              have HE2 := hide E2
              have HE3 := hide E3
              have HOA := hide OA
              have HE8 := hide E8
              have hzs : b8 < wz.heap.size := t1
              clear G G2 ONZ E2 E3 OA E8 cs on e2 e3 own e8 hown OZ hx2 p4 p5
              go_wp2_with (at_builtin; refine wpList_app _ rfl (.tmp 111) (.tmp 113) _ rfl (b8 + 1) 38 i0 _ 2 16 Try.underlying24 hI hZ hS hY rfl (by omega) _ k (flat ((rotL l m k).map (trn tt ((dd : Int) - 2)))) (by rfl) (ownsRow_ext OW (by (repeat (first | exact Ext.refl _ | assumption | apply Ext.alloc | apply Ext.drew | apply Ext.drewN | (refine Ext.trans ?_ (by assumption)))))) ⟨wz.heap.size, 0, none⟩ 1 1 [.int .i64 (-gx l mm + ((dd : Int) - 2)), .int .i64 (-gy l mm)] (by rfl) rfl (news_alloc wz [.int .i64 (-gx l mm + ((dd : Int) - 2)), .int .i64 (-gy l mm)] 38) (by simp [Value.oneCell']) (by unfold maxLen; omega) (by omega) (by simp; omega) ?_; intro v' w9 hown9 hg9 _; obtain ⟨A9, c9, rfl⟩ := ownsRow_slice hown9; have hr9 : ∀ q, v.ownBlock = some q → b8 + 1 ≤ q := fun q hq => (OW.lt q hq).1; have E9 := (HE8.out.ext (show Ext wz (wz.alloc (.cells #[.int .i64 (-gx l mm + ((dd : Int) - 2)), .int .i64 (-gy l mm)] 38)) by (repeat (first | exact Ext.refl _ | assumption | apply Ext.alloc | apply Ext.drew | apply Ext.drewN | (refine Ext.trans ?_ (by assumption)))))).grown' hg9 (fun e => by have := hr9 _ e; omega); obtain ⟨y1, y2, y3⟩ := E9.cell)
              have xz : Ext wz (wz.alloc (.cells #[.int .i64 (-gx l mm + ((dd : Int) - 2)), .int .i64 (-gy l mm)] 38)) := by (repeat (first | exact Ext.refl _ | assumption | apply Ext.alloc | apply Ext.drew | apply Ext.drewN | (refine Ext.trans ?_ (by assumption))))
              have K1 := hide (cur_set (cur_grown (cur_ext HG.out.1 xz) hg9 (fun e => by have := hr9 _ e; omega)) (p := ⟨b8, 0, none⟩) (fun e => h8g e.symm) (.slice A9 (k + 1) c9))
              have K2 := hide (rb_set (rb_grown (HG.out.2.ext xz) hg9 (fun h0 b off e e2 => by have h1 := HLOW.out h0 b off e; have h2 := hr9 _ e2; have h3 := HW8.out; omega)) (p := ⟨b8, 0, none⟩) (fun h0 b off e e2 => by have h1 := HLOW.out h0 b off e; have h3 := HW8.out; simp at e2; omega) (.slice A9 (k + 1) c9))
              have K3 := hide ((only_grown (HON.out.ext xz) hg9 (fun q hq => by have := hr9 q hq; have h3 := HW8.out; omega)).setNew (q := b8) HW8.out 0 (.slice A9 (k + 1) c9))
              have K4 := hide (((HE2.out.ext xz).grown' hg9 (fun e => by have := hr9 _ e; omega)).far (p := ⟨b8, 0, none⟩) (by simp; omega) (.slice A9 (k + 1) c9))
              have K5 := hide (((HE3.out.ext xz).grown' hg9 (fun e => by have := hr9 _ e; omega)).far (p := ⟨b8, 0, none⟩) (by simp; omega) (.slice A9 (k + 1) c9))
              have K6 := hide (((HOA.out.ext xz).grown hg9 (fun e => by have := hr9 _ e; omega)).far (p := ⟨b8, 0, none⟩) (by simp; omega) (.slice A9 (k + 1) c9))
              have K7 := hide (E9.set (.slice A9 (k + 1) c9))
              have K8 := hide (ownsRow_set hown9 (p := ⟨b8, 0, none⟩) (by show b8 < b8 + 1; omega) (.slice A9 (k + 1) c9))
              clear hown9 hg9 hr9 E9 OW xz
              go_roundw
              case rel => exact ⟨k + 1, by omega, by go_num, _, ⟨K1.out, K2.out⟩, K3.out, K4.out, K5.out, K6.out, K7.out, by rw [HRS.out, HTR.out]; exact K8.out⟩
              case measure => simp [intOf]; omega
            · have b1 : ((tt : Int) == 1) = false := b1
              have b2 : ((tt : Int) == 2) = false := b2
              go_upto_region 26 with (fail)
              obtain ⟨wz, hwz⟩ : ∃ wz, wz = ((w2.setCell ⟨bp, 0, none⟩ (.int .i64 (gx l mm))).setCell ⟨bp, 1, none⟩ (.int .i64 (gy l mm))).setCell ⟨bp, 0, none⟩ (.int .i64 (gx l mm + ((dd : Int) - 2))) := ⟨_, rfl⟩
              have PZ : PtC wz bp (gx l mm + ((dd : Int) - 2)) (gy l mm) := by rw [hwz]; exact (p9.set _ _).setX _
              have OZ : Only bp w2 wz := by rw [hwz]; exact (((Only.refl w2).set _ _).set _ _).set _ _
              have HTR := hide (show trn tt ((dd : Int) - 2) (gx l mm, gy l mm) = (gx l mm + ((dd : Int) - 2), gy l mm) by rw [HTC.out]; rfl)
              rw [← hwz]
              clear hwz p9 p1 p2 p3 p4 p5 hC2 hW2
              have G := (cur_only (cur_ext cs.1 hx2) OZ (by have := on.size; omega))
              have G2 := ((cs.2.ext hx2).only OZ (fun h0 b off e => by have := HLOW.out h0 b off e; have := on.size; omega))
              have ONZ : Only g w wz := only_two (on.ext hx2) OZ (by have := on.size; omega)
              have E2 := (e2.ext hx2).only OZ (by have := e2.cell.1; omega)
              have E3 := (e3.ext hx2).only OZ (by have := e3.cell.1; omega)
              have OA := (own.ext hx2).only OZ (by have := own.lt; omega)
              have E8 := (e8.ext hx2).only OZ (by have := e8.cell.1; omega)
              have OW := ownsRow_onlyB (ownsRow_ext hown hx2) OZ (fun e => by have := (hown.lt _ e).2; omega)
              obtain ⟨p1, p2, p3, p4, p5⟩ := PZ.cells
              obtain ⟨t1, t2, t3⟩ := E8.cell
              have HG := hide (show CS g B n c wz from ⟨G, G2⟩)
              have HON := hide ONZ
              have HE2 := hide E2
              have HE3 := hide E3
              have HOA := hide OA
              have HE8 := hide E8
              have hzs : b8 < wz.heap.size := t1
              clear G G2 ONZ E2 E3 OA E8 cs on e2 e3 own e8 hown OZ hx2 p4 p5
              go_wp2_with (at_builtin; refine wpList_app _ rfl (.tmp 111) (.tmp 113) _ rfl (b8 + 1) 38 i0 _ 2 16 Try.underlying24 hI hZ hS hY rfl (by omega) _ k (flat ((rotL l m k).map (trn tt ((dd : Int) - 2)))) (by rfl) (ownsRow_ext OW (by (repeat (first | exact Ext.refl _ | assumption | apply Ext.alloc | apply Ext.drew | apply Ext.drewN | (refine Ext.trans ?_ (by assumption)))))) ⟨wz.heap.size, 0, none⟩ 1 1 [.int .i64 (gx l mm + ((dd : Int) - 2)), .int .i64 (gy l mm)] (by rfl) rfl (news_alloc wz [.int .i64 (gx l mm + ((dd : Int) - 2)), .int .i64 (gy l mm)] 38) (by simp [Value.oneCell']) (by unfold maxLen; omega) (by omega) (by simp; omega) ?_; intro v' w9 hown9 hg9 _; obtain ⟨A9, c9, rfl⟩ := ownsRow_slice hown9; have hr9 : ∀ q, v.ownBlock = some q → b8 + 1 ≤ q := fun q hq => (OW.lt q hq).1; have E9 := (HE8.out.ext (show Ext wz (wz.alloc (.cells #[.int .i64 (gx l mm + ((dd : Int) - 2)), .int .i64 (gy l mm)] 38)) by (repeat (first | exact Ext.refl _ | assumption | apply Ext.alloc | apply Ext.drew | apply Ext.drewN | (refine Ext.trans ?_ (by assumption)))))).grown' hg9 (fun e => by have := hr9 _ e; omega); obtain ⟨y1, y2, y3⟩ := E9.cell)
              have xz : Ext wz (wz.alloc (.cells #[.int .i64 (gx l mm + ((dd : Int) - 2)), .int .i64 (gy l mm)] 38)) := by (repeat (first | exact Ext.refl _ | assumption | apply Ext.alloc | apply Ext.drew | apply Ext.drewN | (refine Ext.trans ?_ (by assumption))))
              have K1 := hide (cur_set (cur_grown (cur_ext HG.out.1 xz) hg9 (fun e => by have := hr9 _ e; omega)) (p := ⟨b8, 0, none⟩) (fun e => h8g e.symm) (.slice A9 (k + 1) c9))
              have K2 := hide (rb_set (rb_grown (HG.out.2.ext xz) hg9 (fun h0 b off e e2 => by have h1 := HLOW.out h0 b off e; have h2 := hr9 _ e2; have h3 := HW8.out; omega)) (p := ⟨b8, 0, none⟩) (fun h0 b off e e2 => by have h1 := HLOW.out h0 b off e; have h3 := HW8.out; simp at e2; omega) (.slice A9 (k + 1) c9))
              have K3 := hide ((only_grown (HON.out.ext xz) hg9 (fun q hq => by have := hr9 q hq; have h3 := HW8.out; omega)).setNew (q := b8) HW8.out 0 (.slice A9 (k + 1) c9))
              have K4 := hide (((HE2.out.ext xz).grown' hg9 (fun e => by have := hr9 _ e; omega)).far (p := ⟨b8, 0, none⟩) (by simp; omega) (.slice A9 (k + 1) c9))
              have K5 := hide (((HE3.out.ext xz).grown' hg9 (fun e => by have := hr9 _ e; omega)).far (p := ⟨b8, 0, none⟩) (by simp; omega) (.slice A9 (k + 1) c9))
              have K6 := hide (((HOA.out.ext xz).grown hg9 (fun e => by have := hr9 _ e; omega)).far (p := ⟨b8, 0, none⟩) (by simp; omega) (.slice A9 (k + 1) c9))
              have K7 := hide (E9.set (.slice A9 (k + 1) c9))
              have K8 := hide (ownsRow_set hown9 (p := ⟨b8, 0, none⟩) (by show b8 < b8 + 1; omega) (.slice A9 (k + 1) c9))
              clear hown9 hg9 hr9 E9 OW xz
              go_roundw
              case rel => exact ⟨k + 1, by omega, by go_num, _, ⟨K1.out, K2.out⟩, K3.out, K4.out, K5.out, K6.out, K7.out, by rw [HRS.out, HTR.out]; exact K8.out⟩
              case measure => simp [intOf]; omega
        · have hkn : k = N := by omega
          have hkl2 : ¬ (k : Int) < (N : Int) := by omega
          obtain ⟨A9, c9, rfl⟩ := ownsRow_slice hown
          have HKN := hide hkn
          obtain ⟨t1, t2, t3⟩ := e8.cell
          obtain ⟨y1, y2, y3⟩ := e2.cell
          have nr : ¬ rb = b8 := by omega
          have nr2 : ¬ b8 = rb := by omega
          clear hkn
          go_wp2
          refine bodyPost_ret (v := .agg #[.slice A9 k c9]) (by simp [results, Try.results27, go_sem, *]) rfl ?_
          have hlen : ((startL l m).map (trn tt ((dd : Int) - 2))).length = k := by rw [List.length_map, startL_length, HKN.out, HLN.out]
          have hmL : m < l.length := by rw [HLN.out]; exact hm
          have hrot : (rotL l m k).map (trn tt ((dd : Int) - 2)) = (startL l m).map (trn tt ((dd : Int) - 2)) := by rw [← rotL_full hmL, HLN.out, HKN.out]
          rw [hrot] at hown
          have hcapn := own_cap hown (by rw [HKN.out]; omega)
          have hO := (OwnS.of_own hown).2
          have hjk : j ≤ 3 := by omega
          refine ⟨(startL l m).map (trn tt ((dd : Int) - 2)), A9, c9, by rw [hlen], by rw [hlen]; exact hcapn, ⟨s, j, tt, m, l, _, hs, hjk, hre, htt, hmL, bdx, rfl⟩, (hO.set_below (p := ⟨rb, 0, none⟩) (by show rb < _; omega) _).more (by have := HW8.out; omega) (by rw [size_setCell]; exact Nat.le_refl _), ⟨cur_set cs.1 (fun e => k1 e.symm) _, rb_set cs.2 (fun h0 b off e e2 => by have := HLOW.out h0 b off e; have := HRB.out; simp at e2; omega) _⟩, on.setNew (by have := HRB.out; omega) _ _⟩

set_option maxRecDepth 100000 in
set_option maxHeartbeats 1600000 in
theorem DrawRoom_any (B : Option Addr) (n c : Nat) (w : World) (hb : RB w B n) (hn : n ≤ 1048576) :
    Calls Try.prog 7 #[.slice B n c] w fun e w' => ∃ L A c', e = .returned (.agg #[.slice A L.length c']) ∧ L.length ≤ c' ∧ Drawn L ∧ OwnS w' w.heap.size w'.heap.size 38 A L ∧ Ext w w' := by
  have x0 : Ext w (w.alloc (.cells #[.slice none 0 0] 26)) := by (repeat (first | exact Ext.refl _ | assumption | apply Ext.alloc | apply Ext.drew | apply Ext.drewN | (refine Ext.trans ?_ (by assumption))))
  have r0 := OneC.new w 26 (.slice none 0 0)
  have z0 : (w.alloc (.cells #[.slice none 0 0] 26)).heap.size = w.heap.size + 1 := by simp
  go_enter Try.func7, Try.ntmps7
  go_wp2_with fail
  refine (l01New_any B n c _ (hb.ext x0) hn).mono ?_
  rintro e w1 ⟨rfl, hc1, x1⟩
  have hz1 := x1.size
  obtain ⟨g, hg⟩ : ∃ g, g = (w.alloc (.cells #[.slice none 0 0] 26)).heap.size := ⟨_, rfl⟩
  rw [← hg] at hc1
  have hgg : g = w.heap.size + 1 := by rw [hg, z0]
  have hlow : 0 < n → ∀ b off, B = some ⟨b, off, none⟩ → b ≠ g := fun h0 b off e => by
    obtain ⟨b', off', e', h1, _⟩ := hb h0
    rw [e] at e'
    injection e' with e'
    injection e' with e' _
    omega
  have hge : w.heap.size < g := by omega
  have HGG := hide hgg
  rw [← hg]
  have hcl : g < w1.heap.size := by rw [z0] at hz1; obtain ⟨_, _, h1, _⟩ := hc1; exact heap_lt h1
  clear hg hgg z0 hz1
  go_wp2_with fail
  refine (l04Room_any g B n c w1 ⟨hc1, (hb.ext x0).ext x1⟩ hn hlow hcl).mono ?_
  rintro e w2 ⟨L, A, c', rfl, hcap, hD, hO, _, on⟩
  have E := (r0.ext x1).only on (by omega)
  obtain ⟨y1, y2, y3⟩ := E.cell
  have s1 := (x0.trans x1).size
  have bl : Below w.heap.size w w2 := Below.trans (x0.trans x1).below (on.below (by omega) s1)
  go_wp2
  refine bodyPost_ret (v := .agg #[.slice A L.length c']) (by simp [results, Try.results7, go_sem, *]) rfl ?_
  refine ⟨L, A, c', rfl, hcap, hD, ?_, (show Ext w w2 from bl).setCell (by simp) _⟩
  intro hl
  obtain ⟨k, e, h1, h2, h3⟩ := hO hl
  have hk0 : k ≠ w.heap.size := fun e2 => by
    obtain ⟨cs, h4, _⟩ := h3
    unfold OneC at E
    rw [e2] at h4
    rw [h4] at E
    injection E with E
    injection E with _ E _
    exact absurd E (by decide)
  exact ⟨k, e, by omega, by rw [size_setCell]; exact h2, h3.far (by simpa using hk0) _⟩

end Go.Proofs.Ytanagdlikoinaaa
