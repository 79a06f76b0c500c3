/-
  The draw of a room: its shapes, what may be drawn (plain words), and the contracts of the shape and of the copy.
-/
import Derived.Test.YtanagdlikoinaaaJ1
import Derived.Test.YtanagdlikoinaaaSStart
namespace Go.Proofs.Ytanagdlikoinaaa
open Go.RowKit

/-- the shapes -/
def shp : Nat → List (Int × Int)
  | 0 => [(0, 0), (4, 0), (4, 4), (0, 4)]
  | 1 => [(0, 0), (5, 0), (2, 4)]
  | 2 => [(0, 0), (6, 0), (6, 2), (2, 2), (2, 6), (0, 6)]
  | 3 => [(0, 0), (8, 0), (8, 6), (4, 2), (0, 6)]
  | 4 => [(0, 0), (10, 0), (10, 5), (8, 1), (5, 5), (2, 1), (0, 5)]
  | 5 => [(0, 0), (7, 0), (7, 7), (1, 7), (1, 3), (3, 3), (3, 5), (5, 5), (5, 2), (0, 2)]
  | 6 => [(0, 0), (4, 2), (8, 0), (5, 3), (4, 7), (3, 3)]
  | _ => [(0, 0), (6, 1), (7, 4), (3, 6), (1, 3)]

/-- a corner moved -/
def mvd (l : List (Int × Int)) (i : Nat) (dx dy : Int) : List (Int × Int) := l.set i (gx l i + dx, gy l i + dy)
/-- the rooms that the first loop may hold after j rounds -/
inductive Reach (s : Nat) : Nat → List (Int × Int) → Prop
  | base : Reach s 0 (shp s)
  | stay {j l} : Reach s j l → Reach s (j + 1) l
  | move {j l i dx dy} : Reach s j l → i < l.length → (-1 ≤ dx ∧ dx ≤ 1) → (-1 ≤ dy ∧ dy ≤ 1) → roomB (mvd l i dx dy) = true → Reach s (j + 1) (mvd l i dx dy)
/-- a point turned and moved -/
def trn (t : Nat) (dx : Int) (p : Int × Int) : Int × Int := if t = 1 then (-p.2 + dx, p.1) else if t = 2 then (-p.1 + dx, -p.2) else (p.1 + dx, p.2)
/-- the rooms that may be drawn -/
def Drawn (L : List (Int × Int)) : Prop := ∃ (s j t m : Nat) (l : List (Int × Int)) (dx : Int), s < 8 ∧ j ≤ 3 ∧ Reach s j l ∧ t < 4 ∧ m < l.length ∧ (-2 ≤ dx ∧ dx ≤ 2) ∧ L = (startL l m).map (trn t dx)

theorem mvd_length (l : List (Int × Int)) (i : Nat) (dx dy : Int) : (mvd l i dx dy).length = l.length := by simp [mvd]
theorem shp_length (s : Nat) : 3 ≤ (shp s).length ∧ (shp s).length ≤ 10 := by
  match s with
  | 0 | 1 | 2 | 3 | 4 | 5 | 6 => decide
  | n + 7 => exact (by decide : 3 ≤ (shp 7).length ∧ (shp 7).length ≤ 10)
theorem Reach.len {s j : Nat} {l : List (Int × Int)} (h : Reach s j l) : l.length = (shp s).length := by
  induction h with
  | base => rfl
  | stay _ ih => exact ih
  | move _ _ _ _ _ ih => rw [mvd_length]; exact ih
theorem g_mem' {l : List (Int × Int)} {k : Nat} (hk : k < l.length) : (gx l k, gy l k) ∈ l := by
  have e : (gx l k, gy l k) = l.getD k (0, 0) := rfl
  rw [e, List.getD_eq_getElem?_getD, List.getElem?_eq_getElem hk]
  exact List.getElem_mem hk
theorem mem_mvd {l : List (Int × Int)} {i : Nat} {dx dy : Int} {p : Int × Int} (hi : i < l.length) (h : p ∈ mvd l i dx dy) : p ∈ l ∨ ∃ q, q ∈ l ∧ p = (q.1 + dx, q.2 + dy) := by
  unfold mvd at h
  rcases List.mem_or_eq_of_mem_set h with h | h
  · exact .inl h
  · exact .inr ⟨(gx l i, gy l i), g_mem' hi, h⟩
/-- how far the corners go -/
theorem Reach.bd {s j : Nat} {l : List (Int × Int)} (h : Reach s j l) : ∀ p, p ∈ l → (-(j : Int) ≤ p.1 ∧ p.1 ≤ 10 + j) ∧ (-(j : Int) ≤ p.2 ∧ p.2 ≤ 10 + j) := by
  induction h with
  | base =>
    have hs : ∀ s, ((shp s).all fun p => decide (0 ≤ p.1) && (decide (p.1 ≤ 10) && (decide (0 ≤ p.2) && decide (p.2 ≤ 10)))) = true := by
      intro s
      match s with
      | 0 | 1 | 2 | 3 | 4 | 5 | 6 => decide
      | n + 7 => exact (by decide : ((shp 7).all fun p => decide (0 ≤ p.1) && (decide (p.1 ≤ 10) && (decide (0 ≤ p.2) && decide (p.2 ≤ 10)))) = true)
    intro p hp
    have := List.all_eq_true.1 (hs s) p hp
    simp only [Bool.and_eq_true, decide_eq_true_eq] at this
    omega
  | stay _ ih => intro p hp; have := ih p hp; omega
  | move _ hi h1 h2 _ ih =>
    intro p hp
    rcases mem_mvd hi hp with h | ⟨q, hq, rfl⟩
    · have := ih p h; omega
    · have := ih q hq
      simp only
      omega

theorem ownS_lit (w : World) (l : List (Int × Int)) (T : TypeId) : OwnS (w.alloc (.cells (flat l).toArray T)) w.heap.size (w.heap.size + 1) T (some ⟨w.heap.size, 0, none⟩) l := fun _ =>
  ⟨w.heap.size, rfl, Nat.le_refl _, Nat.lt_succ_self _, (flat l).toArray, heap_alloc_new w _, by simp [flat_length], fun k hk => by
    obtain ⟨h1, h2⟩ := flat_get l k hk
    exact ⟨by simpa using h1, by simpa using h2⟩⟩

/-- a call that returns a new room with these corners -/
def RetQ (x : List (Int × Int)) (w : World) (e : Ending) (w' : World) : Prop := ∃ A' c', e = .returned (.agg #[.slice A' x.length c']) ∧ x.length ≤ c' ∧ OwnS w' w.heap.size w'.heap.size 38 A' x ∧ Ext w w'

theorem shape_own (w : World) (l : List (Int × Int)) (n : Nat) : OwnS ((w.alloc (.cells #[.slice (some ⟨w.heap.size + 1, 0, none⟩) n n] 26)).alloc (.cells (flat l).toArray 38)) w.heap.size ((w.alloc (.cells #[.slice (some ⟨w.heap.size + 1, 0, none⟩) n n] 26)).alloc (.cells (flat l).toArray 38)).heap.size 38 (some ⟨w.heap.size + 1, 0, none⟩) l := by
  have h := ownS_lit (w.alloc (.cells #[.slice (some ⟨w.heap.size + 1, 0, none⟩) n n] 26)) l 38
  have e : (w.alloc (.cells #[.slice (some ⟨w.heap.size + 1, 0, none⟩) n n] 26)).heap.size = w.heap.size + 1 := by simp
  rw [e] at h
  exact h.more (by omega) (by simp)


set_option maxRecDepth 100000 in
set_option maxHeartbeats 6400000 in
theorem l04Shape_any (k : Nat) (hk : k < 8) (w : World) : Calls Try.prog 44 #[.int .i64 k] w (RetQ (shp k) w) := by
  match k, hk with
  | 0, _ =>
    go_enter Try.func44, Try.ntmps44
    go_wp2
    exact bodyPost_ret (v := .agg #[.slice (some ⟨w.heap.size + 1, 0, none⟩) 4 4]) (by simp [results, Try.results44, go_sem, World.cell?_alloc_past]) rfl ⟨_, _, rfl, by decide, shape_own w (shp 0) 4, by (repeat (first | exact Ext.refl _ | assumption | apply Ext.alloc | apply Ext.drew | apply Ext.drewN | (refine Ext.trans ?_ (by assumption))))⟩
  | 1, _ =>
    go_enter Try.func44, Try.ntmps44
    go_wp2
    exact bodyPost_ret (v := .agg #[.slice (some ⟨w.heap.size + 1, 0, none⟩) 3 3]) (by simp [results, Try.results44, go_sem, World.cell?_alloc_past]) rfl ⟨_, _, rfl, by decide, shape_own w (shp 1) 3, by (repeat (first | exact Ext.refl _ | assumption | apply Ext.alloc | apply Ext.drew | apply Ext.drewN | (refine Ext.trans ?_ (by assumption))))⟩
  | 2, _ =>
    go_enter Try.func44, Try.ntmps44
    go_wp2
    exact bodyPost_ret (v := .agg #[.slice (some ⟨w.heap.size + 1, 0, none⟩) 6 6]) (by simp [results, Try.results44, go_sem, World.cell?_alloc_past]) rfl ⟨_, _, rfl, by decide, shape_own w (shp 2) 6, by (repeat (first | exact Ext.refl _ | assumption | apply Ext.alloc | apply Ext.drew | apply Ext.drewN | (refine Ext.trans ?_ (by assumption))))⟩
  | 3, _ =>
    go_enter Try.func44, Try.ntmps44
    go_wp2
    exact bodyPost_ret (v := .agg #[.slice (some ⟨w.heap.size + 1, 0, none⟩) 5 5]) (by simp [results, Try.results44, go_sem, World.cell?_alloc_past]) rfl ⟨_, _, rfl, by decide, shape_own w (shp 3) 5, by (repeat (first | exact Ext.refl _ | assumption | apply Ext.alloc | apply Ext.drew | apply Ext.drewN | (refine Ext.trans ?_ (by assumption))))⟩
  | 4, _ =>
    go_enter Try.func44, Try.ntmps44
    go_wp2
    exact bodyPost_ret (v := .agg #[.slice (some ⟨w.heap.size + 1, 0, none⟩) 7 7]) (by simp [results, Try.results44, go_sem, World.cell?_alloc_past]) rfl ⟨_, _, rfl, by decide, shape_own w (shp 4) 7, by (repeat (first | exact Ext.refl _ | assumption | apply Ext.alloc | apply Ext.drew | apply Ext.drewN | (refine Ext.trans ?_ (by assumption))))⟩
  | 5, _ =>
    go_enter Try.func44, Try.ntmps44
    go_wp2
    exact bodyPost_ret (v := .agg #[.slice (some ⟨w.heap.size + 1, 0, none⟩) 10 10]) (by simp [results, Try.results44, go_sem, World.cell?_alloc_past]) rfl ⟨_, _, rfl, by decide, shape_own w (shp 5) 10, by (repeat (first | exact Ext.refl _ | assumption | apply Ext.alloc | apply Ext.drew | apply Ext.drewN | (refine Ext.trans ?_ (by assumption))))⟩
  | 6, _ =>
    go_enter Try.func44, Try.ntmps44
    go_wp2
    exact bodyPost_ret (v := .agg #[.slice (some ⟨w.heap.size + 1, 0, none⟩) 6 6]) (by simp [results, Try.results44, go_sem, World.cell?_alloc_past]) rfl ⟨_, _, rfl, by decide, shape_own w (shp 6) 6, by (repeat (first | exact Ext.refl _ | assumption | apply Ext.alloc | apply Ext.drew | apply Ext.drewN | (refine Ext.trans ?_ (by assumption))))⟩
  | 7, _ =>
    go_enter Try.func44, Try.ntmps44
    go_wp2
    exact bodyPost_ret (v := .agg #[.slice (some ⟨w.heap.size + 1, 0, none⟩) 5 5]) (by simp [results, Try.results44, go_sem, World.cell?_alloc_past]) rfl ⟨_, _, rfl, by decide, shape_own w (shp 7) 5, by (repeat (first | exact Ext.refl _ | assumption | apply Ext.alloc | apply Ext.drew | apply Ext.drewN | (refine Ext.trans ?_ (by assumption))))⟩
  | n + 8, h => exact absurd h (by omega)

end Go.Proofs.Ytanagdlikoinaaa
