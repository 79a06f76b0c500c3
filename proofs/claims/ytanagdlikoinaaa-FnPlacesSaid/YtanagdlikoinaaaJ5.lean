/- 6 texts joined: Block SightL TriE PlaceW FloorL PickA. -/
import Derived.Test.YtanagdlikoinaaaJ4
import Derived.Test.YtanagdlikoinaaaJ2
import Derived.Test.YtanagdlikoinaaaJ3
namespace Go.Proofs.Ytanagdlikoinaaa
open Go.RowKit

/-- the first from k on, of d, that p holds of -/
def firstP (p : Nat → Bool) : Nat → Nat → Int
  | _, 0 => -1
  | k, d + 1 => if p k = true then (k : Int) else firstP p (k + 1) d
theorem firstP_at (p : Nat → Bool) : ∀ d k m, k ≤ m → m < k + d → (∀ j, k ≤ j → j < m → p j = false) → p m = true → firstP p k d = (m : Int)
  | 0, k, m, h1, h2, _, _ => by omega
  | d + 1, k, m, h1, h2, h3, h4 => by
    unfold firstP
    by_cases e : k = m
    · subst e; rw [if_pos h4]
    · rw [if_neg (by rw [h3 k (Nat.le_refl _) (by omega)]; decide)]
      exact firstP_at p d (k + 1) m (by omega) (by omega) (fun j a b => h3 j (by omega) b) h4
theorem firstP_no (p : Nat → Bool) : ∀ d k, (∀ j, k ≤ j → j < k + d → p j = false) → firstP p k d = -1
  | 0, _, _ => rfl
  | d + 1, k, h => by
    unfold firstP
    rw [if_neg (by rw [h k (Nat.le_refl _) (by omega)]; decide)]
    exact firstP_no p d (k + 1) (fun j a b => h j (by omega) (by omega))

/-- whether a line crosses wall k -/
def crsE (l : List (Int × Int)) (ax ay bx by_ : Int) (k : Nat) : Bool := crossB (gx l k) (gy l k) (gx l (nx l k)) (gy l (nx l k)) ax ay bx by_
/-- BlockingWall, as both texts give it -/
def blockV (l : List (Int × Int)) (ax ay bx by_ : Int) : Int := if (ax == bx && ay == by_) = true ∨ isInV l ax ay = false ∨ isInV l bx by_ = false then -1 else firstP (crsE l ax ay bx by_) 0 l.length

theorem isIn_iff {l : List (Int × Int)} {x y : Int} : isInV l x y = true ↔ pok x y = true ∧ roomB l = true ∧ (placeV l x y != 0) = true := by
  unfold isInV placeInV
  cases pok x y <;> cases roomB l <;> simp
/-- whether every point of a list lies in a room -/
def allInV (l ps : List (Int × Int)) : Bool := (List.range ps.length).all (fun k => pok (gx ps k) (gy ps k) && (placeV l (gx ps k) (gy ps k) != 0)) && roomB l

theorem allIn_two (l : List (Int × Int)) (ax ay bx by_ : Int) : allInV l [(ax, ay), (bx, by_)] = (isInV l ax ay && isInV l bx by_) := by
  have h : ∀ x y, isInV l x y = (pok x y && (roomB l && (placeV l x y != 0))) := fun x y => by
    unfold isInV placeInV
    cases pok x y <;> cases roomB l <;> simp
  unfold allInV
  rw [h, h]
  have e : List.range ([(ax, ay), (bx, by_)] : List (Int × Int)).length = [0, 1] := rfl
  rw [e]
  simp only [List.all_cons, List.all_nil, gx, gy, List.getD_cons_zero, List.getD_cons_succ]
  cases pok ax ay <;> cases pok bx by_ <;> cases roomB l <;> simp

theorem rpts_two (w : World) (ax ay bx by_ : Int) (T : TypeId) : RPts (w.alloc (.cells #[.int .i64 ax, .int .i64 ay, .int .i64 bx, .int .i64 by_] T)) (some ⟨w.heap.size, 0, none⟩) [(ax, ay), (bx, by_)] := fun _ => by
  have h := heap_alloc_new w (.cells #[.int .i64 ax, .int .i64 ay, .int .i64 bx, .int .i64 by_] T)
  refine ⟨w.heap.size, 0, rfl, Nat.zero_le _, by simp, fun k hk => ?_⟩
  have hk2 : k = 0 ∨ k = 1 := by simp at hk; omega
  rcases hk2 with rfl | rfl <;> (unfold World.cell?; simp only [h]; exact ⟨rfl, rfl⟩)

theorem cross_room {l : List (Int × Int)} {ax ay bx by_ : Int} (hr : roomB l = true) (ha : pok ax ay = true) (hb : pok bx by_ = true) (hs : (ax == bx && ay == by_) = false) {k : Nat} (hk : k < l.length) : doCrossV ax ay bx by_ (gx l k) (gy l k) (gx l (nx l k)) (gy l (nx l k)) = crsE l ax ay bx by_ k := by
  have h1 : wok ax ay bx by_ = true := by unfold wok pok2 neB; rw [ha, hb, hs]; rfl
  unfold doCrossV crsE crossB
  rw [h1, room_wok hr hk, Bool.true_and, Bool.true_and, Bool.and_comm]
theorem cross_same {l : List (Int × Int)} {ax ay bx by_ : Int} (hs : (ax == bx && ay == by_) = true) (k : Nat) : doCrossV ax ay bx by_ (gx l k) (gy l k) (gx l (nx l k)) (gy l (nx l k)) = false := by
  have h1 : wok ax ay bx by_ = false := by unfold wok neB; rw [hs]; simp
  unfold doCrossV
  rw [h1, Bool.false_and]

end Go.Proofs.Ytanagdlikoinaaa

namespace Go.Proofs.Ytanagdlikoinaaa
open Go.RowKit

/-- a corner c is noted for the way from a to b -/
def cutB (ax ay bx by_ cx cy : Int) : Bool := !(cx == ax && cy == ay) && (!(cx == bx && cy == by_) && onW cx cy ax ay bx by_)
/-- a, b and the noted ones of the first k corners -/
def cutsTo (l : List (Int × Int)) (ax ay bx by_ : Int) (k : Nat) : List (Int × Int) := (ax, ay) :: (bx, by_) :: (l.take k).filter fun p => cutB ax ay bx by_ p.1 p.2
/-- the first k corners, doubled -/
def dblTo (l : List (Int × Int)) (k : Nat) : List (Int × Int) := (l.take k).map fun p => (2 * p.1, 2 * p.2)
def dbl (l : List (Int × Int)) : List (Int × Int) := dblTo l l.length
def cuts (l : List (Int × Int)) (ax ay bx by_ : Int) : List (Int × Int) := cutsTo l ax ay bx by_ l.length

theorem take_at (l : List (Int × Int)) {k : Nat} (hk : k < l.length) : l.take (k + 1) = l.take k ++ [(gx l k, gy l k)] := by
  rw [List.take_succ_eq_append_getElem hk]
  unfold gx gy
  rw [List.getD_eq_getElem?_getD, List.getElem?_eq_getElem hk]
  rfl
theorem cutsTo_on {l : List (Int × Int)} {ax ay bx by_ : Int} {k : Nat} (hk : k < l.length) (h : cutB ax ay bx by_ (gx l k) (gy l k) = true) : cutsTo l ax ay bx by_ (k + 1) = cutsTo l ax ay bx by_ k ++ [(gx l k, gy l k)] := by
  unfold cutsTo
  have e : [(gx l k, gy l k)].filter (fun p => cutB ax ay bx by_ p.1 p.2) = [(gx l k, gy l k)] := by simp [h]
  rw [take_at l hk, List.filter_append, e]
  rfl
theorem cutsTo_off {l : List (Int × Int)} {ax ay bx by_ : Int} {k : Nat} (hk : k < l.length) (h : cutB ax ay bx by_ (gx l k) (gy l k) = false) : cutsTo l ax ay bx by_ (k + 1) = cutsTo l ax ay bx by_ k := by
  unfold cutsTo
  have e : [(gx l k, gy l k)].filter (fun p => cutB ax ay bx by_ p.1 p.2) = [] := by simp [h]
  rw [take_at l hk, List.filter_append, e, List.append_nil]
theorem cutsTo_length (l : List (Int × Int)) (ax ay bx by_ : Int) (k : Nat) : 2 ≤ (cutsTo l ax ay bx by_ k).length ∧ (cutsTo l ax ay bx by_ k).length ≤ k + 2 := by
  unfold cutsTo
  have h := List.length_filter_le (fun p : Int × Int => cutB ax ay bx by_ p.1 p.2) (l.take k)
  have h2 := List.length_take_le k l
  simp only [List.length_cons]
  omega
theorem dblTo_succ {l : List (Int × Int)} {k : Nat} (hk : k < l.length) : dblTo l (k + 1) = dblTo l k ++ [(2 * gx l k, 2 * gy l k)] := by
  unfold dblTo
  rw [take_at l hk, List.map_append]
  rfl
theorem dblTo_length {l : List (Int × Int)} {k : Nat} (hk : k ≤ l.length) : (dblTo l k).length = k := by
  unfold dblTo
  rw [List.length_map, List.length_take]
  omega
theorem dbl_length (l : List (Int × Int)) : (dbl l).length = l.length := dblTo_length (Nat.le_refl _)

theorem g_mem {l : List (Int × Int)} {k : Nat} (hk : k < l.length) : (gx l k, gy l k) ∈ l := by
  have := getD_mem (d := ((0, 0) : Int × Int)) hk
  exact this
theorem mem_g {l : List (Int × Int)} {p : Int × Int} (h : p ∈ l) : ∃ k, k < l.length ∧ gx l k = p.1 ∧ gy l k = p.2 := by
  obtain ⟨k, hk, e⟩ := mem_getD (d := ((0, 0) : Int × Int)) h
  exact ⟨k, hk, by unfold gx; rw [e], by unfold gy; rw [e]⟩

theorem dbl_small {l : List (Int × Int)} (hf : Fine l) : Small 1000000 (dbl l) := by
  intro k hk
  have hm := g_mem hk
  unfold dbl dblTo at hm
  rw [List.take_length, List.mem_map] at hm
  obtain ⟨p, hp, e⟩ := hm
  obtain ⟨j, hj, e1, e2⟩ := mem_g hp
  have h := within_of_pok (hf.pok hj)
  have f1 : 2 * p.1 = gx (dbl l) k := by
    have := congrArg Prod.fst e
    unfold dbl dblTo
    rw [List.take_length]
    exact this
  have f2 : 2 * p.2 = gy (dbl l) k := by
    have := congrArg Prod.snd e
    unfold dbl dblTo
    rw [List.take_length]
    exact this
  unfold within at h ⊢
  omega

theorem room_nodup {l : List (Int × Int)} (hr : roomB l = true) : l.Nodup := by
  have hf := (roomB_fine hr).1
  have h3 := (roomB_fine hr).2
  have key : ∀ i j, i < j → j < l.length → gx l i = gx l j → gy l i = gy l j → False := by
    intro i j hij hj ex ey
    by_cases a1 : j = i + 1
    · have := room_wok hr (k := i) (by omega)
      have e : nx l i = j := by unfold nx; rw [Nat.mod_eq_of_lt (by omega)]; omega
      rw [e, ← ex, ← ey] at this
      unfold wok neB at this
      simp at this
    · by_cases a2 : i = 0 ∧ j + 1 = l.length
      · have := room_wok hr (k := j) (by omega)
        have e : nx l j = i := by unfold nx; rw [a2.2, Nat.mod_self]; omega
        rw [e, ← ex, ← ey] at this
        unfold wok neB at this
        simp at this
      · have hask : askI l i j = true := by
          unfold askI
          have : (j + 1) % l.length ≠ i := by
            rcases Nat.lt_or_ge (j + 1) l.length with h | h
            · rw [Nat.mod_eq_of_lt h]; omega
            · have : j + 1 = l.length := by omega
              rw [this, Nat.mod_self]; omega
          simp [this]
          omega
        have hmt : mt l i j = true := by
          unfold mt meetV
          have hw := room_wok hr (k := j) hj
          rw [room_wok hr (by omega), hw]
          have ho : onW (gx l i) (gy l i) (gx l j) (gy l j) (gx l (nx l j)) (gy l (nx l j)) = true := by
            rw [ex, ey]
            have w1 := within_more (within_of_pok (hf.pok hj)) (N := 1000000) (by omega)
            have w2 := within_more (within_of_pok (hf.pok (nx_lt hj))) (N := 1000000) (by omega)
            exact (onW_iff (a := (gx l j, gy l j)) (b := (gx l (nx l j), gy l (nx l j))) (c := (gx l j, gy l j)) w1 w2 w1).2 (onz_start _ _)
          rw [ho]
          simp
        have := roomB_row (by omega) (rowI_meet hj hask hmt)
        rw [hr] at this
        cases this
  refine List.pairwise_iff_getElem.2 fun i j hi hj hij he => key i j hij hj ?_ ?_
  · unfold gx
    rw [List.getD_eq_getElem?_getD, List.getElem?_eq_getElem hi, List.getD_eq_getElem?_getD, List.getElem?_eq_getElem hj, he]
  · unfold gy
    rw [List.getD_eq_getElem?_getD, List.getElem?_eq_getElem hi, List.getD_eq_getElem?_getD, List.getElem?_eq_getElem hj, he]

theorem pok_mem {l : List (Int × Int)} (hf : Fine l) {p : Int × Int} (h : p ∈ l) : pok p.1 p.2 = true := by
  obtain ⟨k, hk, e1, e2⟩ := mem_g h
  rw [← e1, ← e2]
  exact hf.pok hk

theorem cutB_iff {ax ay bx by_ : Int} {p : Int × Int} (ha : pok ax ay = true) (hb : pok bx by_ = true) (hp : pok p.1 p.2 = true) : cutB ax ay bx by_ p.1 p.2 = true ↔ p ≠ (ax, ay) ∧ p ≠ (bx, by_) ∧ OnZ (ax, ay) (bx, by_) p := by
  have w1 := within_more (within_of_pok ha) (N := 1000000) (by omega)
  have w2 := within_more (within_of_pok hb) (N := 1000000) (by omega)
  have w3 := within_more (within_of_pok hp) (N := 1000000) (by omega)
  unfold cutB
  rw [Bool.and_eq_true, Bool.and_eq_true, onW_iff (a := (ax, ay)) (b := (bx, by_)) (c := p) w1 w2 w3]
  obtain ⟨x, y⟩ := p
  simp [Prod.ext_iff]
  grind

theorem cuts_on {l : List (Int × Int)} {ax ay bx by_ : Int} (hf : Fine l) (ha : pok ax ay = true) (hb : pok bx by_ = true) : ∀ p, p ∈ cuts l ax ay bx by_ → pok p.1 p.2 = true ∧ OnZ (ax, ay) (bx, by_) p := by
  intro p hp
  unfold cuts cutsTo at hp
  simp only [List.mem_cons, List.mem_filter, List.take_length] at hp
  rcases hp with rfl | rfl | ⟨h1, h2⟩
  · exact ⟨ha, onz_start _ _⟩
  · exact ⟨hb, onz_end _ _⟩
  · have h3 := pok_mem hf h1
    exact ⟨h3, ((cutB_iff ha hb h3).1 h2).2.2⟩

theorem cuts_nodup {l : List (Int × Int)} {ax ay bx by_ : Int} (hr : roomB l = true) (ha : pok ax ay = true) (hb : pok bx by_ = true) (hab : (ax, ay) ≠ (bx, by_)) : (cuts l ax ay bx by_).Nodup := by
  have hf := (roomB_fine hr).1
  unfold cuts cutsTo
  rw [List.take_length]
  refine List.nodup_cons.2 ⟨?_, List.nodup_cons.2 ⟨?_, (room_nodup hr).filter _⟩⟩
  · simp only [List.mem_cons, List.mem_filter]
    rintro (h | ⟨h1, h2⟩)
    · exact hab h
    · exact ((cutB_iff (p := (ax, ay)) ha hb (pok_mem hf h1)).1 h2).1 rfl
  · simp only [List.mem_filter]
    rintro ⟨h1, h2⟩
    exact ((cutB_iff (p := (bx, by_)) ha hb (pok_mem hf h1)).1 h2).2.1 rfl

theorem cuts_same {l : List (Int × Int)} {ax ay : Int} (hf : Fine l) (ha : pok ax ay = true) : cuts l ax ay ax ay = [(ax, ay), (ax, ay)] := by
  unfold cuts cutsTo
  rw [List.take_length]
  have : l.filter (fun p => cutB ax ay ax ay p.1 p.2) = [] := by
    rw [List.filter_eq_nil_iff]
    intro p hp hc
    obtain ⟨h1, _, h3⟩ := (cutB_iff ha ha (pok_mem hf hp)).1 hc
    exact h1 (onz_same h3)
  rw [this]

/-- no other one of c lies between those at i and k -/
def freeTo (c : List (Int × Int)) (i k n : Nat) : Bool := (List.range n).all fun j => j == i || (j == k || !onW (gx c j) (gy c j) (gx c i) (gy c i) (gx c k) (gy c k))
def freeB (c : List (Int × Int)) (i k : Nat) : Bool := freeTo c i k c.length
/-- where the middle of those at i and k lies, in the reference's words -/
def midS (l c : List (Int × Int)) (i k : Nat) : Int := holdsV (dbl l) (gx c i + gx c k) (gy c i + gy c k)
/-- and in the program's -/
def midP (l : List (Int × Int)) (ax ay bx by_ : Int) : Int := placeV (dbl l) (ax + bx) (ay + by_)
def badS (l c : List (Int × Int)) (i k : Nat) : Bool := freeB c i k && decide (midS l c i k < 0)
def goodRow (l c : List (Int × Int)) (i n : Nat) : Bool := (List.range n).all fun k => !badS l c i k
def goodTo (l c : List (Int × Int)) (n : Nat) : Bool := (List.range n).all fun i => goodRow l c i i
def clearTo (l : List (Int × Int)) (ax ay bx by_ : Int) (n : Nat) : Bool := (List.range n).all fun k => !crsE l ax ay bx by_ k
/-- sight in a valid room, as both texts give it -/
def seesV (l : List (Int × Int)) (ax ay bx by_ : Int) : Bool := clearTo l ax ay bx by_ l.length && goodTo l (cuts l ax ay bx by_) (cuts l ax ay bx by_).length

theorem all_range_succ (f : Nat → Bool) (n : Nat) : (List.range (n + 1)).all f = ((List.range n).all f && f n) := by
  rw [List.range_succ, List.all_append]
  simp
theorem freeTo_succ (c : List (Int × Int)) (i k n : Nat) : freeTo c i k (n + 1) = (freeTo c i k n && (n == i || (n == k || !onW (gx c n) (gy c n) (gx c i) (gy c i) (gx c k) (gy c k)))) := all_range_succ _ _
theorem goodRow_succ (l c : List (Int × Int)) (i n : Nat) : goodRow l c i (n + 1) = (goodRow l c i n && !badS l c i n) := all_range_succ _ _
theorem goodTo_succ (l c : List (Int × Int)) (n : Nat) : goodTo l c (n + 1) = (goodTo l c n && goodRow l c n n) := all_range_succ _ _
theorem clearTo_succ (l : List (Int × Int)) (ax ay bx by_ : Int) (n : Nat) : clearTo l ax ay bx by_ (n + 1) = (clearTo l ax ay bx by_ n && !crsE l ax ay bx by_ n) := all_range_succ _ _
theorem all_false {f : Nat → Bool} {n k : Nat} (hk : k < n) (h : f k = false) : (List.range n).all f = false := by
  rw [List.all_eq_false]
  exact ⟨k, List.mem_range.2 hk, by simp [h]⟩
theorem seesV_cross {l : List (Int × Int)} {ax ay bx by_ : Int} {k : Nat} (hk : k < l.length) (h : crsE l ax ay bx by_ k = true) : seesV l ax ay bx by_ = false := by
  have : clearTo l ax ay bx by_ l.length = false := all_false hk (by simp [h])
  unfold seesV
  rw [this]
  rfl
theorem seesV_bad {l : List (Int × Int)} {ax ay bx by_ : Int} {i k : Nat} (hi : i < (cuts l ax ay bx by_).length) (hk : k < i) (h : badS l (cuts l ax ay bx by_) i k = true) : seesV l ax ay bx by_ = false := by
  have h1 : goodRow l (cuts l ax ay bx by_) i i = false := all_false hk (by simp [h])
  have : goodTo l (cuts l ax ay bx by_) (cuts l ax ay bx by_).length = false := all_false hi h1
  unfold seesV
  rw [this]
  simp

theorem mid_holds {l : List (Int × Int)} (hf : Fine l) {p q : Int × Int} (hp : pok p.1 p.2 = true) (hq : pok q.1 q.2 = true) : midP l p.1 p.2 q.1 q.2 = holdsV (dbl l) (p.1 + q.1) (p.2 + q.2) + 1 := by
  have w1 := within_of_pok hp
  have w2 := within_of_pok hq
  exact place_holds (dbl_small hf) (by unfold within at *; omega)
theorem holds_bd (l : List (Int × Int)) (px py : Int) : -1 ≤ holdsV l px py ∧ holdsV l px py ≤ 1 := by
  unfold holdsV
  split
  · omega
  · exact sg_bd _

theorem freeB_iff {c : List (Int × Int)} (hc : ∀ p, p ∈ c → pok p.1 p.2 = true) {i k : Nat} (hi : i < c.length) (hk : k < c.length) :
    freeB c i k = true ↔ ∀ j, j < c.length → j ≠ i → j ≠ k → ¬ OnZ (c.getD i (0, 0)) (c.getD k (0, 0)) (c.getD j (0, 0)) := by
  unfold freeB freeTo
  rw [List.all_eq_true]
  simp only [List.mem_range]
  have hw : ∀ j, j < c.length → within 1000000 (c.getD j (0, 0)).1 (c.getD j (0, 0)).2 := fun j hj => within_more (within_of_pok (hc _ (getD_mem hj))) (by omega)
  constructor
  · intro h j hj n1 n2 ho
    have := h j hj
    have hz := (onW_iff (hw i hi) (hw k hk) (hw j hj)).2 ho
    have e1 : (j == i) = false := by simp [n1]
    have e2 : (j == k) = false := by simp [n2]
    rw [e1, e2] at this
    unfold gx gy at this
    rw [hz] at this
    cases this
  · intro h j hj
    by_cases n1 : j = i
    · simp [n1]
    · by_cases n2 : j = k
      · simp [n2]
      · have := h j hj n1 n2
        rw [← onW_iff (hw i hi) (hw k hk) (hw j hj)] at this
        unfold gx gy
        simp only [Bool.not_eq_true] at this
        rw [this]
        simp

theorem goodTo_iff (l c : List (Int × Int)) : goodTo l c c.length = true ↔ ∀ i k, i < c.length → k < i → freeB c i k = true → 0 ≤ midS l c i k := by
  unfold goodTo goodRow badS
  rw [List.all_eq_true]
  simp only [List.mem_range, List.all_eq_true, Bool.not_eq_true', Bool.and_eq_false_iff, decide_eq_false_iff_not]
  constructor
  · intro h i k hi hk hf
    rcases h i hi k hk with h1 | h1
    · rw [hf] at h1; cases h1
    · omega
  · intro h i hi k hk
    cases hf : freeB c i k
    · exact .inl rfl
    · have := h i k hi hk hf
      exact .inr (by omega)

/-- the sorted neighbours are just the free pairs -/
theorem sees_sorted {l s : List (Int × Int)} {ax ay bx by_ : Int} (hr : roomB l = true) (ha : pok ax ay = true) (hb : pok bx by_ = true) (hp : s.Perm (cuts l ax ay bx by_)) (hs : SortedK (kk (ax, ay)) (0, 0) s) :
    (∀ i, i + 1 < s.length → midP l (gx s i) (gy s i) (gx s (i + 1)) (gy s (i + 1)) ≠ 0) ↔ goodTo l (cuts l ax ay bx by_) (cuts l ax ay bx by_).length = true := by
  have hf := (roomB_fine hr).1
  rw [goodTo_iff]
  by_cases hab : (ax, ay) = (bx, by_)
  · obtain ⟨rfl, rfl⟩ := Prod.mk.inj hab
    have e := cuts_same hf ha
    rw [e] at hp ⊢
    have es : s = [(ax, ay), (ax, ay)] := (List.perm_replicate (n := 2) (a := (ax, ay))).1 hp
    subst es
    have hm := mid_holds hf (p := (ax, ay)) (q := (ax, ay)) ha ha
    have hbd := holds_bd (dbl l) (ax + ax) (ay + ay)
    constructor
    · intro h i k hi hk _
      have hi2 : i < 2 := hi
      obtain rfl : i = 1 := by omega
      obtain rfl : k = 0 := by omega
      have h0 : midP l ax ay ax ay ≠ 0 := h 0 (by simp)
      have e2 : midS l [(ax, ay), (ax, ay)] 1 0 = holdsV (dbl l) (ax + ax) (ay + ay) := rfl
      rw [e2]
      have hm : midP l ax ay ax ay = holdsV (dbl l) (ax + ax) (ay + ay) + 1 := hm
      omega
    · intro h i hi
      have hi2 : i + 1 < 2 := hi
      obtain rfl : i = 0 := by omega
      have h0 : 0 ≤ holdsV (dbl l) (ax + ax) (ay + ay) := h 1 0 (by simp) (by omega) (by unfold freeB freeTo; simp [List.range_succ])
      show midP l ax ay ax ay ≠ 0
      have hm : midP l ax ay ax ay = holdsV (dbl l) (ax + ax) (ay + ay) + 1 := hm
      omega
  · have hn := cuts_nodup hr ha hb hab
    have hon := cuts_on hf ha hb
    generalize cuts l ax ay bx by_ = c at *
    have hK : ∀ x y, x ∈ c → y ∈ c → kk (ax, ay) x = kk (ax, ay) y → x = y := fun x y hx hy h => kk_inj hab (hon x hx).2 (hon y hy).2 h
    have hQ : ∀ x y : Int × Int, midP l x.1 x.2 y.1 y.2 ≠ 0 → midP l y.1 y.2 x.1 x.2 ≠ 0 := fun x y h => by
      unfold midP at h ⊢
      rwa [Int.add_comm y.1, Int.add_comm y.2]
    have h1 := sorted_next (Q := fun x y => midP l x.1 x.2 y.1 y.2 ≠ 0) hp hn hK hs
    have h2 := pairs_next (d := ((0, 0) : Int × Int)) (K := kk (ax, ay)) (Q := fun x y => midP l x.1 x.2 y.1 y.2 ≠ 0) (B := fun z x y => OnZ x y z) hn hK hQ (fun z x y h => onz_comm.1 h)
      (fun x y z hx hy hz a b => onz_of_kk hab (hon x hx).2 (hon y hy).2 (hon z hz).2 a b)
      (fun x y z hx hy hz a b => kk_of_onz hab (hon x hx).2 (hon y hy).2 (hon z hz).2 a b)
    refine Iff.trans h1 (Iff.trans h2.symm ?_)
    constructor
    · intro h i k hi hk hfree
      have h3 := h i k hi hk ((freeB_iff (fun p hp => (hon p hp).1) hi (by omega)).1 hfree)
      have hm := mid_holds hf (hon _ (getD_mem (d := ((0, 0) : Int × Int)) hi)).1 (hon _ (getD_mem (d := ((0, 0) : Int × Int)) (show k < c.length by omega))).1
      have hbd := holds_bd (dbl l) ((c.getD i (0, 0)).1 + (c.getD k (0, 0)).1) ((c.getD i (0, 0)).2 + (c.getD k (0, 0)).2)
      show 0 ≤ holdsV (dbl l) ((c.getD i (0, 0)).1 + (c.getD k (0, 0)).1) ((c.getD i (0, 0)).2 + (c.getD k (0, 0)).2)
      omega
    · intro h i k hi hk hfree
      have h3 : 0 ≤ holdsV (dbl l) ((c.getD i (0, 0)).1 + (c.getD k (0, 0)).1) ((c.getD i (0, 0)).2 + (c.getD k (0, 0)).2) := h i k hi hk ((freeB_iff (fun p hp => (hon p hp).1) hi (by omega)).2 hfree)
      have hm := mid_holds hf (hon _ (getD_mem (d := ((0, 0) : Int × Int)) hi)).1 (hon _ (getD_mem (d := ((0, 0) : Int × Int)) (show k < c.length by omega))).1
      show midP l _ _ _ _ ≠ 0
      omega

end Go.Proofs.Ytanagdlikoinaaa

namespace Go.Proofs.Ytanagdlikoinaaa
namespace Jor

/-- a height that no two points of the plane at hand share -/
def MM : Int := 1000000000
/-- the corners, with heights that differ -/
def hv (l : List P) (i : Nat) : P := hm MM (pt l i)
theorem room_bd {l : List P} (hr : roomB l = true) {i : Nat} (hi : i < l.length) : (-40 ≤ (pt l i).1 ∧ (pt l i).1 ≤ 40) ∧ (-40 ≤ (pt l i).2 ∧ (pt l i).2 ≤ 40) := (roomB_fine hr).1.bd hi
theorem pt_ne {l : List P} (hr : roomB l = true) {i k : Nat} (hi : i < l.length) (hk : k < l.length) (h : i ≠ k) : pt l i ≠ pt l k := fun e => h (by
  have hn := room_nodup hr
  refine nodup_getD (d := (0, 0)) hn hi hk ?_
  have e1 : ∀ i, pt l i = l.getD i (0, 0) := fun i => rfl
  rw [← e1, ← e1]
  exact e)
theorem nr_room {l : List P} (hr : roomB l = true) {i k : Nat} (hi : i < l.length) (hk : k < l.length) : Nr MM (pt l i) (pt l k) := by
  have h1 := room_bd hr hi
  have h2 := room_bd hr hk
  unfold Nr MM
  omega
theorem hm_ne {M : Int} {a b : P} (_ : 0 < M) (hn : Nr M a b) (h : a ≠ b) : (hm M a).2 ≠ (hm M b).2 := by
  intro e
  have h1 := hm_lt (M := M) hn.1 hn.2
  have h2 := hm_lt (M := M) hn.2 hn.1
  apply h
  apply Prod.ext <;> omega
theorem room_off {l : List P} (hr : roomB l = true) {i k : Nat} (hi : i < l.length) (hk : k < l.length) (h1 : k ≠ i) (h2 : k ≠ nx l.length i) : onZB (pt l k) (pt l i) (pt l (nx l.length i)) = false := by
  by_cases h3 : nx l.length k = i
  · have ht := (room_z hr).2.1 k hk
    have e2 : (k + 2) % l.length = nx l.length i := by
      rw [← h3]
      unfold nx
      rw [Nat.mod_add_mod]
    have e1 : Go.Proofs.Ytanagdlikoinaaa.nx l k = i := h3
    unfold tz at ht
    rw [e1, e2] at ht
    have e3 : turnZ (pt l i).1 (pt l i).2 (pt l (nx l.length i)).1 (pt l (nx l.length i)).2 (pt l k).1 (pt l k).2 = turnZ (gx l k) (gy l k) (gx l i) (gy l i) (gx l (nx l.length i)) (gy l (nx l.length i)) := tu_rot (pt l k) (pt l i) (pt l (nx l.length i))
    unfold onZB
    rw [e3]
    simp [ht]
  · exact (room_apart hr hi hk h1 h2.symm h3).2.2.2.1
theorem not_crs_of {a b c d : P} (h : crossZ a b c d = false) : ¬ Crs a b c d := by
  rintro ⟨h1, h2⟩
  have e : crossZ a b c d = true := by
    unfold crossZ
    have e1 : turnZ a.1 a.2 b.1 b.2 c.1 c.2 = tu a b c := rfl
    have e2 : turnZ a.1 a.2 b.1 b.2 d.1 d.2 = tu a b d := rfl
    have e3 : turnZ c.1 c.2 d.1 d.2 a.1 a.2 = tu c d a := rfl
    have e4 : turnZ c.1 c.2 d.1 d.2 b.1 b.2 = tu c d b := rfl
    rw [e1, e2, e3, e4, Bool.and_eq_true, decide_eq_true_eq, decide_eq_true_eq]
    have k : ∀ x y : Int, (x < 0 ∧ 0 < y) ∨ (0 < x ∧ y < 0) → sgn x * sgn y < 0 := fun x y hh => by
      unfold sgn
      rcases hh with ⟨g1, g2⟩ | ⟨g1, g2⟩
      · rw [if_neg (by omega), if_pos g1, if_pos g2]; decide
      · rw [if_pos g1, if_neg (by omega), if_pos g2]; decide
    exact ⟨k _ _ h1, k _ _ h2⟩
  rw [h] at e
  cases e
theorem crs_hm {M : Int} (hM : 0 < M) {a b c d : P} (h : ¬ Crs a b c d) : ¬ Crs (hm M a) (hm M b) (hm M c) (hm M d) := by
  intro hh
  apply h
  unfold Crs at hh ⊢
  simpa only [hm_neg hM, hm_pos hM] using hh
theorem crs_self {a b c d : P} (h : a = c ∨ a = d ∨ b = c ∨ b = d) : ¬ Crs a b c d := by
  rintro ⟨h1, h2⟩
  rcases h with rfl | rfl | rfl | rfl
  · rw [tu_fst] at h1; omega
  · rw [tu_snd] at h1; omega
  · rw [tu_fst] at h1; omega
  · rw [tu_snd] at h1; omega
theorem simple_room {l : List P} (hr : roomB l = true) : Simple (hv l) l.length := by
  refine ⟨(room_z hr).1.1, fun i k hi hk hne => hm_ne (by decide) (nr_room hr hi hk) (pt_ne hr hi hk hne), fun i k hi hk h1 h2 => off_hm (by decide) (nr_room hr hi hk) (nr_room hr (nx_lt (by omega)) hk) (room_off hr hi hk h1 h2), fun i k hi hk => ?_⟩
  refine crs_hm (by decide) ?_
  by_cases h1 : k = i
  · exact crs_self (.inl (by rw [h1]))
  · by_cases h2 : nx l.length i = k
    · exact crs_self (.inr (.inr (.inl (by rw [h2]))))
    · by_cases h3 : nx l.length k = i
      · exact crs_self (.inr (.inl (by rw [h3])))
      · exact not_crs_of (room_apart hr hi hk h1 h2 h3).1
theorem bd_room {l : List P} (hr : roomB l = true) : ∃ B : Int, 0 ≤ B ∧ ∀ i, i < l.length → Bd B (hv l i) (hv l (nx l.length i)) := by
  refine ⟨100 * MM, by decide, fun i hi => ?_⟩
  have h1 := room_bd hr hi
  have h2 := room_bd hr (nx_lt (n := l.length) (i := i) (by omega))
  unfold Bd hv hm MM
  simp only
  omega
/-- triangles of a room's corners -/
def posT (l : List P) (t : T3) : Prop := 0 < tu (pt l t.1) (pt l t.2.1) (pt l t.2.2)
theorem trg_room {l : List P} (hr : roomB l = true) {ts : List T3} (hc : Cert l.length ts) (hp : ∀ t, t ∈ ts → posT l t) : Trg (hv l) l.length ts :=
  ⟨simple_room hr, hc, fun t ht => (hm_pos (by decide) _ _ _).2 (hp t ht), bd_room hr⟩

end Jor
end Go.Proofs.Ytanagdlikoinaaa

namespace Go.Proofs.Ytanagdlikoinaaa
namespace Jor

/-- all corners within 1000 -/
def Sml (q : List P) : Prop := ∀ k, k < q.length → within 1000 (gx q k) (gy q k)
theorem Sml.small {q : List P} (h : Sml q) : Small 1000000 q := fun k hk => within_more (h k hk) (by decide)
section
variable {q : List P} (hs : Sml q) {p : P} (hp : within 1000 p.1 p.2)
include hs hp
theorem turnE_tu {k : Nat} (hk : k < q.length) : turnE q p.1 p.2 k = tu (pt q k) (pt q (nx q.length k)) p := turnW_eq (hs.small k hk) (hs.small _ (nx_lt (by omega))) (within_more hp (by decide))
theorem onE_onZ {k : Nat} (hk : k < q.length) : onE q p.1 p.2 k = onZB p (pt q k) (pt q (nx q.length k)) := by
  have e := turnE_tu hs hp hk
  have h1 : onE q p.1 p.2 k = (decide (turnE q p.1 p.2 k = 0) && (inB p.1 (min (gx q k) (gx q (nx q.length k))) (max (gx q k) (gx q (nx q.length k))) && inB p.2 (min (gy q k) (gy q (nx q.length k))) (max (gy q k) (gy q (nx q.length k))))) := rfl
  rw [h1, e]
  rfl
theorem nr_sml {k : Nat} (hk : k < q.length) : Nr MM (pt q k) p := by
  have h1 : within 1000 (pt q k).1 (pt q k).2 := hs k hk
  have h2 := hp
  unfold within at h1 h2
  unfold Nr MM
  omega
theorem cr_cs {k : Nat} (hk : k < q.length) (ho : onE q p.1 p.2 k = false) : (cs (hm MM p) (hm MM (pt q k)) (hm MM (pt q (nx q.length k))) = 0 ∧ crI q p.1 p.2 k = false) ∨ ((cs (hm MM p) (hm MM (pt q k)) (hm MM (pt q (nx q.length k))) = 1 ∨ cs (hm MM p) (hm MM (pt q k)) (hm MM (pt q (nx q.length k))) = -1) ∧ crI q p.1 p.2 k = true) := by
  have hn := nx_lt (n := q.length) (i := k) (by omega)
  have n1 := nr_sml hs hp hk
  have n2 := nr_sml hs hp hn
  have e := turnE_tu hs hp hk
  rw [onE_onZ hs hp hk] at ho
  have a1 := hm_lt (M := MM) n1.1 n1.2
  have a2 := hm_lt (M := MM) n1.2 n1.1
  have a3 := hm_lt (M := MM) n2.1 n2.2
  have a4 := hm_lt (M := MM) n2.2 n2.1
  have a5 := hm_neg (M := MM) (by decide) (pt q k) (pt q (nx q.length k)) p
  have a6 := hm_pos (M := MM) (by decide) (pt q k) (pt q (nx q.length k)) p
  have hcr : crI q p.1 p.2 k = ((decide (p.2 < (pt q k).2) != decide (p.2 < (pt q (nx q.length k)).2)) && (decide (0 < turnE q p.1 p.2 k) == decide ((pt q k).2 < (pt q (nx q.length k)).2))) := rfl
  rw [hcr, e]
  unfold cs
  simp only [a5, a6, a1, a2, a3, a4]
  clear hcr e a1 a2 a3 a4 a5 a6 n1 n2
  generalize pt q k = a at *
  generalize pt q (nx q.length k) = b at *
  have l1 : a.2 = p.2 → tu a b p = (a.1 - p.1) * (b.2 - a.2) := fun h => by unfold tu; rw [h]; grind
  have l2 : b.2 = p.2 → tu a b p = (b.1 - p.1) * (b.2 - a.2) := fun h => by unfold tu; rw [← h]; grind
  have m1 := sgm (a.1 - p.1) (b.2 - a.2)
  have m2 := sgm (b.1 - p.1) (b.2 - a.2)
  have hz : tu a b p = 0 → ¬ ((a.2 ≤ p.2 ∧ p.2 < b.2) ∨ (b.2 ≤ p.2 ∧ p.2 < a.2)) := fun h0 hh => by
    have h1 : turnZ a.1 a.2 b.1 b.2 p.1 p.2 = 0 := h0
    have h2 := on_of_line h1 hh
    unfold onZB inB at ho
    rw [h1] at ho
    simp only [decide_true, Bool.true_and, Bool.and_eq_false_iff, decide_eq_false_iff_not] at ho
    omega
  have hb1 : ∀ x y z w : Prop, ∀ [Decidable x] [Decidable y] [Decidable z] [Decidable w], ((decide x != decide y) && (decide z == decide w)) = decide ((¬ (x ↔ y)) ∧ (z ↔ w)) := fun x y z w => by
    by_cases h1 : x <;> by_cases h2 : y <;> by_cases h3 : z <;> by_cases h4 : w <;> simp [h1, h2, h3, h4]
  rw [hb1, decide_eq_false_iff_not, decide_eq_true_eq]
  clear ho hb1
  generalize tu a b p = t at *
  generalize (a.1 - p.1) * (b.2 - a.2) = s1 at *
  generalize (b.1 - p.1) * (b.2 - a.2) = s2 at *
  rcases Int.lt_trichotomy a.2 p.2 with h1 | h1 | h1 <;> rcases Int.lt_trichotomy b.2 p.2 with h2 | h2 | h2
  · rw [if_neg (by omega), if_neg (by omega)]; omega
  · clear m1 l1; rw [if_neg (by omega)]; split <;> omega
  · clear m1 l1 m2 l2; split
    · omega
    · rw [if_neg (by omega)]; omega
  · clear m2 l2; split
    · omega
    · rw [if_neg (by omega)]; omega
  · rw [if_neg (by omega), if_neg (by omega)]; omega
  · clear m2 l2; split
    · omega
    · split <;> omega
  · clear m1 l1 m2 l2; rw [if_neg (by omega)]; split <;> omega
  · clear m1 l1; split
    · omega
    · split <;> omega
  · rw [if_neg (by omega), if_neg (by omega)]; omega
end
theorem par_sm {f : Nat → Bool} {g : Nat → Int} : ∀ n, (∀ i, i < n → (g i = 0 ∧ f i = false) ∨ ((g i = 1 ∨ g i = -1) ∧ f i = true)) → ((parTo f n = true ∧ sm g n % 2 = 1) ∨ (parTo f n = false ∧ sm g n % 2 = 0))
  | 0, _ => .inr ⟨rfl, rfl⟩
  | n + 1, h => by
    have ih := par_sm n fun i hi => h i (by omega)
    have h1 := h n (by omega)
    rw [parTo_succ, sm]
    rcases h1 with ⟨h1, h2⟩ | ⟨h1, h2⟩
    · rw [h2, h1, if_neg (by decide), Int.add_zero]
      exact ih
    · rw [h2, if_pos rfl]
      rcases ih with ⟨i1, i2⟩ | ⟨i1, i2⟩ <;> rw [i1]
      · exact .inr ⟨rfl, by omega⟩
      · exact .inl ⟨rfl, by omega⟩
theorem off_walls {q : List P} (hs : Sml q) {p : P} (hp : within 1000 p.1 p.2) (ho : ∀ k, k < q.length → onE q p.1 p.2 k = false) : (∀ i, i < q.length → Off (hm MM p) (hv q i) (hv q (nx q.length i))) ∧ (∀ k, k < q.length → (hv q k).2 ≠ (hm MM p).2) := by
  refine ⟨fun i hi => off_hm (by decide) (nr_sml hs hp hi) (nr_sml hs hp (nx_lt (by omega))) (by rw [← onE_onZ hs hp hi]; exact ho i hi), fun k hk => hm_ne (by decide) (nr_sml hs hp hk) ?_⟩
  intro e
  have h := ho k hk
  rw [onE_onZ hs hp hk, ← e] at h
  unfold onZB inB at h
  have h1 : turnZ (pt q k).1 (pt q k).2 (pt q (nx q.length k)).1 (pt q (nx q.length k)).2 (pt q k).1 (pt q k).2 = 0 := tu_fst _ _
  rw [h1] at h
  simp only [decide_true, Bool.true_and, Bool.and_eq_false_iff, decide_eq_false_iff_not] at h
  omega
/-- off the walls the program's answer is the sum's -/
theorem place_wn {q : List P} {ts : List T3} (h : Trg (hv q) q.length ts) (hs : Sml q) {p : P} (hp : within 1000 p.1 p.2) (ho : ∀ k, k < q.length → onE q p.1 p.2 k = false) : (wn (hv q) q.length (hm MM p) = 1 ∧ placeV q p.1 p.2 = 2) ∨ (wn (hv q) q.length (hm MM p) = 0 ∧ placeV q p.1 p.2 = 0) := by
  have hpar := par_sm (f := crI q p.1 p.2) (g := fun i => cs (hm MM p) (hv q i) (hv q (nx q.length i))) q.length fun i hi => cr_cs hs hp hi (ho i hi)
  have e1 : sm (fun i => cs (hm MM p) (hv q i) (hv q (nx q.length i))) q.length = wn (hv q) q.length (hm MM p) := rfl
  rw [e1] at hpar
  have hof := off_walls hs hp ho
  have w1 := wR_off (v := hv q) (n := q.length) hof.2
  have u1 := h.upR (hm MM p)
  have u2 : 0 ≤ wR (hv q) q.length (hm MM p) := by
    rw [← h.sumR]
    exact ss_nn ts fun t ht => (h.nn ht _).1
  rw [placeV_off ho]
  rcases hpar with ⟨h1, h2⟩ | ⟨h1, h2⟩
  · rw [h1, if_pos rfl]
    exact .inl ⟨by omega, rfl⟩
  · rw [h1, if_neg (by decide)]
    exact .inr ⟨by omega, rfl⟩
theorem placeV_one {q : List P} {x y : Int} : placeV q x y = 1 ↔ ∃ k, k < q.length ∧ onE q x y k = true := by
  constructor
  · intro h
    unfold placeV at h
    split at h
    · rename_i h1
      rw [List.any_eq_true] at h1
      obtain ⟨k, hk, h2⟩ := h1
      exact ⟨k, List.mem_range.1 hk, h2⟩
    · split at h <;> omega
  · rintro ⟨k, hk, h⟩
    exact placeV_on hk h
theorem placeV_cases (q : List P) (x y : Int) : placeV q x y = 0 ∨ placeV q x y = 1 ∨ placeV q x y = 2 := by
  unfold placeV
  split
  · exact .inr (.inl rfl)
  · split
    · exact .inr (.inr rfl)
    · exact .inl rfl
theorem off_of_ne {q : List P} {x y : Int} (h : placeV q x y ≠ 1) : ∀ k, k < q.length → onE q x y k = false := fun k hk => by
  cases e : onE q x y k
  · rfl
  · exact absurd (placeV_on hk e) h

end Jor
end Go.Proofs.Ytanagdlikoinaaa

namespace Go.Proofs.Ytanagdlikoinaaa
open Go.RowKit

/-- the least and the greatest coordinates of the first k points and of the first one -/
def loX (l : List (Int × Int)) : Nat → Int
  | 0 => gx l 0
  | k + 1 => if gx l k < loX l k then gx l k else loX l k
def loY (l : List (Int × Int)) : Nat → Int
  | 0 => gy l 0
  | k + 1 => if gy l k < loY l k then gy l k else loY l k
def hiX (l : List (Int × Int)) : Nat → Int
  | 0 => gx l 0
  | k + 1 => if hiX l k < gx l k then gx l k else hiX l k
def hiY (l : List (Int × Int)) : Nat → Int
  | 0 => gy l 0
  | k + 1 => if hiY l k < gy l k then gy l k else hiY l k
theorem loX_succ (l : List (Int × Int)) (k : Nat) : loX l (k + 1) = if gx l k < loX l k then gx l k else loX l k := rfl
theorem loY_succ (l : List (Int × Int)) (k : Nat) : loY l (k + 1) = if gy l k < loY l k then gy l k else loY l k := rfl
theorem hiX_succ (l : List (Int × Int)) (k : Nat) : hiX l (k + 1) = if hiX l k < gx l k then gx l k else hiX l k := rfl
theorem hiY_succ (l : List (Int × Int)) (k : Nat) : hiY l (k + 1) = if hiY l k < gy l k then gy l k else hiY l k := rfl
theorem loX_min (l : List (Int × Int)) (k : Nat) : loX l (k + 1) = min (loX l k) (gx l k) := by rw [loX_succ]; split <;> omega
theorem loY_min (l : List (Int × Int)) (k : Nat) : loY l (k + 1) = min (loY l k) (gy l k) := by rw [loY_succ]; split <;> omega
theorem hiX_max (l : List (Int × Int)) (k : Nat) : hiX l (k + 1) = max (hiX l k) (gx l k) := by rw [hiX_succ]; split <;> omega
theorem hiY_max (l : List (Int × Int)) (k : Nat) : hiY l (k + 1) = max (hiY l k) (gy l k) := by rw [hiY_succ]; split <;> omega

theorem box_bd {l : List (Int × Int)} (hf : Fine l) (h0 : 0 < l.length) : ∀ k, k ≤ l.length → (-40 ≤ loX l k ∧ loX l k ≤ 40) ∧ (-40 ≤ loY l k ∧ loY l k ≤ 40) ∧ (-40 ≤ hiX l k ∧ hiX l k ≤ 40) ∧ (-40 ≤ hiY l k ∧ hiY l k ≤ 40) ∧ loX l k ≤ hiX l k ∧ loY l k ≤ hiY l k
  | 0, _ => by
    obtain ⟨⟨a, b⟩, c, d⟩ := hf.bd h0
    unfold loX loY hiX hiY
    omega
  | k + 1, hk => by
    obtain ⟨⟨a, b⟩, c, d⟩ := hf.bd (show k < l.length by omega)
    have ih := box_bd hf h0 k (by omega)
    rw [loX_min, loY_min, hiX_max, hiY_max]
    omega

theorem box_in {l : List (Int × Int)} : ∀ n k, k < n → (loX l n ≤ gx l k ∧ gx l k ≤ hiX l n) ∧ (loY l n ≤ gy l k ∧ gy l k ≤ hiY l n)
  | 0, k, h => by omega
  | n + 1, k, h => by
    rw [loX_min, loY_min, hiX_max, hiY_max]
    by_cases e : k = n
    · subst e; omega
    · have := box_in (l := l) n k (by omega)
      omega

/-- the points of a row from x on, n of them, that lie in l -/
def rowL (l : List (Int × Int)) (y x : Int) : Nat → List (Int × Int)
  | 0 => []
  | n + 1 => if (placeV l (x + n) y != 0) = true then rowL l y x n ++ [(x + n, y)] else rowL l y x n
theorem rowL_succ (l : List (Int × Int)) (y x : Int) (n : Nat) : rowL l y x (n + 1) = if (placeV l (x + n) y != 0) = true then rowL l y x n ++ [(x + n, y)] else rowL l y x n := rfl
theorem rowL_le (l : List (Int × Int)) (y x : Int) : ∀ n, (rowL l y x n).length ≤ n
  | 0 => Nat.le_refl _
  | n + 1 => by
    have := rowL_le l y x n
    rw [rowL_succ]
    split
    · rw [List.length_append]; simp; omega
    · omega
/-- the points of n rows -/
def rowsL (l : List (Int × Int)) (y x : Int) (m : Nat) : Nat → List (Int × Int)
  | 0 => []
  | n + 1 => rowsL l y x m n ++ rowL l (y + n) x m
theorem rowsL_succ (l : List (Int × Int)) (y x : Int) (m n : Nat) : rowsL l y x m (n + 1) = rowsL l y x m n ++ rowL l (y + n) x m := rfl
theorem rowsL_le (l : List (Int × Int)) (y x : Int) (m : Nat) : ∀ n, (rowsL l y x m n).length ≤ n * m
  | 0 => by simp [rowsL]
  | n + 1 => by
    have h1 := rowsL_le l y x m n
    have h2 := rowL_le l (y + n) x m
    rw [rowsL_succ, List.length_append, Nat.add_mul]
    omega
/-- the floor's points -/
def floorL (l : List (Int × Int)) : List (Int × Int) :=
  rowsL l (loY l l.length) (loX l l.length) (hiX l l.length - loX l l.length + 1).toNat (hiY l l.length - loY l l.length + 1).toNat
/-- FloorPoints, as both texts give it -/
def floorV (l : List (Int × Int)) : List (Int × Int) := if roomB l = true then floorL l else []
theorem floorL_le {l : List (Int × Int)} (hf : Fine l) (h0 : 0 < l.length) : (floorL l).length ≤ 6561 := by
  obtain ⟨⟨a1, a2⟩, ⟨b1, b2⟩, ⟨c1, c2⟩, ⟨d1, d2⟩, e1, e2⟩ := box_bd hf h0 l.length (Nat.le_refl _)
  have h := rowsL_le l (loY l l.length) (loX l l.length) (hiX l l.length - loX l l.length + 1).toNat (hiY l l.length - loY l l.length + 1).toNat
  have h2 : (hiY l l.length - loY l l.length + 1).toNat * (hiX l l.length - loX l l.length + 1).toNat ≤ 81 * 81 := Nat.mul_le_mul (by omega) (by omega)
  unfold floorL
  omega
theorem floorV_le (l : List (Int × Int)) : (floorV l).length ≤ 1048576 := by
  unfold floorV
  split
  · rename_i h
    obtain ⟨hf, h3⟩ := roomB_fine h
    have := floorL_le hf (by omega)
    omega
  · simp

end Go.Proofs.Ytanagdlikoinaaa

namespace Go.Proofs.Ytanagdlikoinaaa
namespace Jor

theorem sm_swap (f : Nat → Nat → Int) (m : Nat) : ∀ n, sm (fun i => sm (fun j => f i j) m) n = sm (fun j => sm (fun i => f i j) n) m
  | 0 => (sm_zero m).symm
  | n + 1 => by
    show sm (fun i => sm (fun j => f i j) m) n + sm (fun j => f n j) m = sm (fun j => sm (fun i => f i j) n + f n j) m
    rw [sm_add, sm_swap f m n]
/-- a sum over a box -/
def bx (x0 y0 : Int) (N H : Nat) (F : P → Int) : Int := sm (fun k => sm (fun j => F (x0 + (j : Nat), y0 + (k : Nat))) N) H
section
variable {x0 y0 : Int} {N H : Nat}
theorem bx_congr {F G : P → Int} (h : ∀ p : P, x0 ≤ p.1 → p.1 < x0 + N → y0 ≤ p.2 → p.2 < y0 + H → F p = G p) : bx x0 y0 N H F = bx x0 y0 N H G :=
  sm_congr _ _ H fun k hk => sm_congr _ _ N fun j hj => h _ (by simp only; omega) (by simp only; omega) (by simp only; omega) (by simp only; omega)
theorem bx_add (F G : P → Int) : bx x0 y0 N H (fun p => F p + G p) = bx x0 y0 N H F + bx x0 y0 N H G := by
  unfold bx
  rw [← sm_add]
  exact sm_congr _ _ H fun k _ => sm_add _ _ N
theorem bx_mul (c : Int) (F : P → Int) : bx x0 y0 N H (fun p => c * F p) = c * bx x0 y0 N H F := by
  unfold bx
  rw [← sm_mul]
  exact sm_congr _ _ H fun k _ => sm_mul c _ N
theorem bx_sm (F : Nat → P → Int) (n : Nat) : bx x0 y0 N H (fun p => sm (fun i => F i p) n) = sm (fun i => bx x0 y0 N H (F i)) n := by
  unfold bx
  rw [sm_swap (fun i k => sm (fun j => F i (x0 + (j : Nat), y0 + (k : Nat))) N) H n]
  exact sm_congr _ _ H fun k _ => (sm_swap (fun i j => F i (x0 + (j : Nat), y0 + (k : Nat))) N n).symm
/-- one place of the box -/
theorem bx_one (q : P) (c : Int) (h1 : x0 ≤ q.1) (h2 : q.1 < x0 + N) (h3 : y0 ≤ q.2) (h4 : q.2 < y0 + H) : bx x0 y0 N H (fun p => if p = q then c else 0) = c := by
  obtain ⟨a, ha⟩ : ∃ a : Nat, q.1 = x0 + a := ⟨(q.1 - x0).toNat, by omega⟩
  obtain ⟨b, hb⟩ : ∃ b : Nat, q.2 = y0 + b := ⟨(q.2 - y0).toNat, by omega⟩
  unfold bx
  rw [sm_one (d := b) H (by omega) ?_, sm_one (d := a) N (by omega) ?_]
  · exact if_pos (Prod.ext ha.symm hb.symm)
  · intro i hi hne
    refine if_neg ?_
    intro e
    have := congrArg Prod.fst e
    simp only at this
    omega
  · intro i hi hne
    rw [sm_congr _ (fun _ => 0) N ?_, sm_zero]
    intro j hj
    refine if_neg ?_
    intro e
    have := congrArg Prod.snd e
    simp only at this
    omega
end

/-! ## A room's box -/
def bX (l : List P) : Int := loX l l.length
def bY (l : List P) : Int := loY l l.length
def bN (l : List P) : Nat := (hiX l l.length - loX l l.length + 1).toNat
def bH (l : List P) : Nat := (hiY l l.length - loY l l.length + 1).toNat
/-- a sum over a room's box -/
def rx (l : List P) (F : P → Int) : Int := bx (bX l) (bY l) (bN l) (bH l) F
section
variable {l : List P} (hr : roomB l = true)
include hr
theorem box_nums : (-40 ≤ bX l ∧ bX l ≤ 40) ∧ (-40 ≤ bY l ∧ bY l ≤ 40) ∧ bX l + (bN l : Int) ≤ 41 ∧ bY l + (bH l : Int) ≤ 41 ∧ (bN l : Int) ≤ 81 ∧ (bH l : Int) ≤ 81 := by
  obtain ⟨hf, h3⟩ := roomB_fine hr
  have h := box_bd hf (by omega) l.length (Nat.le_refl _)
  unfold bX bY bN bH
  omega
theorem in_box {k : Nat} (hk : k < l.length) : bX l ≤ (pt l k).1 ∧ (pt l k).1 < bX l + bN l ∧ bY l ≤ (pt l k).2 ∧ (pt l k).2 < bY l + bH l := by
  have _ := hr
  have h := box_in (l := l) l.length k hk
  unfold bX bY bN bH pt
  simp only
  omega
/-- the sum of all the pushed points' sums is twice the area -/
theorem area_box : rx l (fun p => wR (hv l) l.length (hm MM p) + wL (hv l) l.length (hm MM p)) = areaZ l := by
  have h3 := (room_z hr).1.1
  have hb := box_nums hr
  have e1 : rx l (fun p => wR (hv l) l.length (hm MM p) + wL (hv l) l.length (hm MM p)) = sm (fun i => box MM (bX l) (bY l) (bN l) (bH l) (pt l i) (pt l (nx l.length i))) l.length := by
    have e2 : ∀ p, wR (hv l) l.length (hm MM p) + wL (hv l) l.length (hm MM p) = sm (fun i => cc MM (pt l i) (pt l (nx l.length i)) p) l.length := fun p => by
      unfold wR wL
      rw [← sm_add]
      rfl
    unfold rx
    rw [bx_congr fun p _ _ _ _ => e2 p, bx_sm]
    rfl
  rw [e1]
  have e3 : ∀ i, i < l.length → box MM (bX l) (bY l) (bN l) (bH l) (pt l i) (pt l (nx l.length i)) = (gx l i * gy l (Go.Proofs.Ytanagdlikoinaaa.nx l i) - gy l i * gx l (Go.Proofs.Ytanagdlikoinaaa.nx l i)) + ((gx l ((i + 1) % l.length) * gy l ((i + 1) % l.length) - gx l i * gy l i) + ((1 - 2 * bX l) * (gy l ((i + 1) % l.length) - gy l i) + (-1) * (gx l ((i + 1) % l.length) - gx l i))) := fun i hi => by
    have hn := nx_lt (n := l.length) (i := i) (by omega)
    have b1 := in_box hr hi
    have b2 := in_box hr hn
    rw [box_any (by decide) (by unfold MM; omega) ⟨b1.1, b1.2.1⟩ ⟨b2.1, b2.2.1⟩ ⟨b1.2.2.1, b1.2.2.2⟩ ⟨b2.2.2.1, b2.2.2.2⟩ (pt_ne hr hi hn (Ne.symm (nx_ne (by omega) hi)))]
    unfold pt nx Go.Proofs.Ytanagdlikoinaaa.nx
    simp only
    grind
  rw [sm_congr _ _ _ e3, sm_add, sm_add, sm_add, sm_mul, sm_mul, sm_trip (gy l) (by omega), sm_trip (gx l) (by omega), sm_trip (fun i => gx l i * gy l i) (by omega)]
  unfold areaZ
  rw [areaTo_sm]
  omega
end
theorem room_sml {l : List P} (hr : roomB l = true) : Sml l := fun k hk => within_more (within_of_pok ((roomB_fine hr).1.pok hk)) (by decide)
/-- on a wall, but no corner of it -/
theorem on_of_onE {q : List P} (hs : Sml q) {p : P} (hp : within 1000 p.1 p.2) {k : Nat} (hk : k < q.length) (ho : onE q p.1 p.2 k = true) (h1 : p ≠ pt q k) (h2 : p ≠ pt q (nx q.length k)) : On (hm MM p) (hv q k) (hv q (nx q.length k)) := by
  have n1 := nr_sml hs hp hk
  have n2 := nr_sml hs hp (nx_lt (n := q.length) (i := k) (by omega))
  rw [onE_onZ hs hp hk] at ho
  have a1 := hm_lt (M := MM) n1.1 n1.2
  have a2 := hm_lt (M := MM) n1.2 n1.1
  have a3 := hm_lt (M := MM) n2.1 n2.2
  have a4 := hm_lt (M := MM) n2.2 n2.1
  have a5 := hm_neg (M := MM) (by decide) (pt q k) (pt q (nx q.length k)) p
  have a6 := hm_pos (M := MM) (by decide) (pt q k) (pt q (nx q.length k)) p
  unfold On hv
  generalize pt q k = a at *
  generalize pt q (nx q.length k) = b at *
  unfold onZB inB at ho
  simp only [Bool.and_eq_true, decide_eq_true_eq] at ho
  obtain ⟨ht, hx, hy⟩ := ho
  have ht' : tu a b p = 0 := ht
  refine ⟨?_, by omega⟩
  rw [a1, a2, a3, a4]
  have p1 : ¬ (p.1 = a.1 ∧ p.2 = a.2) := fun h => h1 (Prod.ext h.1 h.2)
  have p2 : ¬ (p.1 = b.1 ∧ p.2 = b.2) := fun h => h2 (Prod.ext h.1 h.2)
  by_cases e : a.2 = b.2
  · omega
  · have l1 : p.2 = a.2 → p.1 = a.1 := fun h => by
      have e2 : (a.1 - p.1) * (b.2 - a.2) = 0 := by rw [← ht']; unfold tu; rw [h]; grind
      rcases Int.mul_eq_zero.1 e2 with g | g <;> omega
    have l2 : p.2 = b.2 → p.1 = b.1 := fun h => by
      have e2 : (b.1 - p.1) * (b.2 - a.2) = 0 := by rw [← ht']; unfold tu; rw [h]; grind
      rcases Int.mul_eq_zero.1 e2 with g | g <;> omega
    omega
/-- on no wall, or on one and no corner, or a corner -/
theorem place_sum {l : List P} (hr : roomB l = true) {ts : List T3} (h : Trg (hv l) l.length ts) {p : P} (hp : within 1000 p.1 p.2) : wR (hv l) l.length (hm MM p) + wL (hv l) l.length (hm MM p) = 2 * (if placeV l p.1 p.2 = 2 then 1 else 0) + ((if placeV l p.1 p.2 = 1 then 1 else 0) + sm (fun j => if p = pt l j then wR (hv l) l.length (hv l j) + wL (hv l) l.length (hv l j) + -1 else 0) l.length) := by
  have hs := room_sml hr
  have hR := h.upR (hm MM p)
  have hL := h.upL (hm MM p)
  have hR0 : 0 ≤ wR (hv l) l.length (hm MM p) := by
    rw [← h.sumR]
    exact ss_nn ts fun t ht => (h.nn ht _).1
  have hL0 : 0 ≤ wL (hv l) l.length (hm MM p) := by
    rw [← h.sumL]
    exact ss_nn ts fun t ht => (h.nn ht _).2
  by_cases hc : ∃ j, j < l.length ∧ p = pt l j
  · obtain ⟨j, hj, rfl⟩ := hc
    have e1 : placeV l (pt l j).1 (pt l j).2 = 1 := by
      refine placeV_one.2 ⟨j, hj, ?_⟩
      rw [onE_onZ hs hp hj]
      unfold onZB inB
      have h1 : turnZ (pt l j).1 (pt l j).2 (pt l (nx l.length j)).1 (pt l (nx l.length j)).2 (pt l j).1 (pt l j).2 = 0 := tu_fst _ _
      rw [h1]
      simp only [decide_true, Bool.true_and, Bool.and_eq_true, decide_eq_true_eq]
      omega
    rw [e1, sm_one (d := j) l.length hj fun i hi hne => if_neg (pt_ne hr hj hi (Ne.symm hne)), if_pos rfl, if_neg (by decide), if_pos rfl]
    unfold hv
    omega
  · have z : sm (fun j => if p = pt l j then wR (hv l) l.length (hv l j) + wL (hv l) l.length (hv l j) + -1 else 0) l.length = 0 := by
      rw [sm_congr _ (fun _ => 0) _ fun j hj => if_neg fun e => hc ⟨j, hj, e⟩, sm_zero]
    rw [z]
    by_cases ho : placeV l p.1 p.2 = 1
    · obtain ⟨k, hk, hk2⟩ := placeV_one.1 ho
      have hn := nx_lt (n := l.length) (i := k) (by omega)
      have hon := on_of_onE hs hp hk hk2 (fun e => hc ⟨_, hk, e⟩) (fun e => hc ⟨_, hn, e⟩)
      have d := wLR_on h.hs hk (p := hm MM p) (fun j hj => hm_ne (by decide) (nr_sml hs hp hj) fun e => hc ⟨_, hj, e.symm⟩) hon
      rw [ho, if_neg (by decide), if_pos rfl]
      split at d <;> omega
    · have hof := off_walls hs hp (off_of_ne ho)
      have w1 := wR_off (v := hv l) (n := l.length) hof.2
      have w2 := wL_off (v := hv l) (n := l.length) hof.2 hof.1
      rcases place_wn h hs hp (off_of_ne ho) with ⟨k1, k2⟩ | ⟨k1, k2⟩
      · rw [k2, if_pos rfl, if_neg (by decide)]
        omega
      · rw [k2, if_neg (by decide), if_neg (by decide)]
        omega
/-- Pick -/
theorem pick {l : List P} (hr : roomB l = true) {ts : List T3} (h : Trg (hv l) l.length ts) : areaZ l = 2 * rx l (fun p => if placeV l p.1 p.2 = 2 then 1 else 0) + rx l (fun p => if placeV l p.1 p.2 = 1 then 1 else 0) - 2 := by
  have hb := box_nums hr
  rw [← area_box hr]
  have e1 : rx l (fun p => wR (hv l) l.length (hm MM p) + wL (hv l) l.length (hm MM p)) = rx l (fun p => 2 * (if placeV l p.1 p.2 = 2 then 1 else 0) + ((if placeV l p.1 p.2 = 1 then 1 else 0) + sm (fun j => if p = pt l j then wR (hv l) l.length (hv l j) + wL (hv l) l.length (hv l j) + -1 else 0) l.length)) := by
    refine bx_congr fun p h1 h2 h3 h4 => place_sum hr h ?_
    unfold within
    omega
  rw [e1]
  unfold rx
  rw [bx_add, bx_add, bx_mul, bx_sm, sm_congr _ (fun j => wR (hv l) l.length (hv l j) + wL (hv l) l.length (hv l j) + -1) _ fun j hj => ?_, sm_add, h.corners, sm_const]
  · omega
  · have b1 := in_box hr hj
    exact bx_one _ _ b1.1 b1.2.1 b1.2.2.1 b1.2.2.2

/-! ## The floor -/
theorem rowL_length (l : List P) (y x : Int) : ∀ n, ((rowL l y x n).length : Int) = sm (fun j => if placeV l (x + (j : Nat)) y ≠ 0 then 1 else 0) n
  | 0 => rfl
  | n + 1 => by
    rw [rowL_succ, sm, ← rowL_length l y x n]
    by_cases e : placeV l (x + (n : Nat)) y = 0
    · rw [if_neg (by simp [e]), if_neg (by simp [e])]
      omega
    · rw [if_pos (by simp [e]), if_pos e, List.length_append]
      simp
theorem rowsL_length (l : List P) (y x : Int) (m : Nat) : ∀ n, ((rowsL l y x m n).length : Int) = bx x y m n (fun p => if placeV l p.1 p.2 ≠ 0 then 1 else 0)
  | 0 => rfl
  | n + 1 => by
    have ih := rowsL_length l y x m n
    rw [rowsL_succ, List.length_append, Int.natCast_add, ih, rowL_length]
    rfl
theorem floor_length (l : List P) : ((floorL l).length : Int) = rx l (fun p => if placeV l p.1 p.2 = 2 then 1 else 0) + rx l (fun p => if placeV l p.1 p.2 = 1 then 1 else 0) := by
  unfold floorL
  rw [rowsL_length]
  unfold rx
  rw [← bx_add]
  refine bx_congr fun p _ _ _ _ => ?_
  rcases placeV_cases l p.1 p.2 with e | e | e <;> rw [e] <;> rfl
theorem mem_rowL {l : List P} {y x : Int} {p : P} : ∀ n, p ∈ rowL l y x n ↔ p.2 = y ∧ x ≤ p.1 ∧ p.1 < x + n ∧ placeV l p.1 p.2 ≠ 0
  | 0 => by
    simp only [rowL, List.not_mem_nil, false_iff]
    omega
  | n + 1 => by
    have ih := mem_rowL (l := l) (y := y) (x := x) (p := p) n
    rw [rowL_succ]
    split
    · rename_i h
      rw [List.mem_append, ih, List.mem_singleton]
      have h' : placeV l (x + n) y ≠ 0 := by simpa using h
      constructor
      · rintro (h1 | rfl)
        · refine ⟨h1.1, h1.2.1, by omega, h1.2.2.2⟩
        · exact ⟨rfl, by simp only; omega, by simp only; omega, h'⟩
      · rintro ⟨h1, h2, h3, h4⟩
        by_cases e : p.1 = x + n
        · exact .inr (Prod.ext e h1)
        · exact .inl ⟨h1, h2, by omega, h4⟩
    · rename_i h
      rw [ih]
      have h' : placeV l (x + n) y = 0 := by simpa using h
      constructor
      · rintro ⟨h1, h2, h3, h4⟩
        exact ⟨h1, h2, by omega, h4⟩
      · rintro ⟨h1, h2, h3, h4⟩
        refine ⟨h1, h2, ?_, h4⟩
        by_cases e : p.1 = x + n
        · rw [h1, e] at h4
          exact absurd h' h4
        · omega
theorem mem_rowsL {l : List P} {y x : Int} {m : Nat} {p : P} : ∀ n, p ∈ rowsL l y x m n ↔ (y ≤ p.2 ∧ p.2 < y + n) ∧ x ≤ p.1 ∧ p.1 < x + m ∧ placeV l p.1 p.2 ≠ 0
  | 0 => by
    simp only [rowsL, List.not_mem_nil, false_iff]
    omega
  | n + 1 => by
    have ih := mem_rowsL (l := l) (y := y) (x := x) (m := m) (p := p) n
    rw [rowsL_succ, List.mem_append, ih, mem_rowL]
    constructor
    · rintro (⟨h1, h2⟩ | ⟨h1, h2⟩)
      · exact ⟨by omega, h2⟩
      · exact ⟨by omega, h2⟩
    · rintro ⟨h1, h2⟩
      by_cases e : p.2 = y + n
      · exact .inr ⟨e, h2⟩
      · exact .inl ⟨by omega, h2⟩
theorem mem_floor {l : List P} {p : P} : p ∈ floorL l ↔ (bY l ≤ p.2 ∧ p.2 < bY l + bH l) ∧ bX l ≤ p.1 ∧ p.1 < bX l + bN l ∧ placeV l p.1 p.2 ≠ 0 := mem_rowsL _

end Jor
end Go.Proofs.Ytanagdlikoinaaa

