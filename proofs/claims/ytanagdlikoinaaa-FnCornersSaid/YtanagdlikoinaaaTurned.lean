/-
  A room begun elsewhere, turned and moved is a room again. No program in sight.
-/
import Derived.Test.YtanagdlikoinaaaDrawR
import Derived.Test.YtanagdlikoinaaaSegL
import Derived.Test.YtanagdlikoinaaaStretch
import Derived.Test.YtanagdlikoinaaaRoomOk
namespace Go.Proofs.Ytanagdlikoinaaa
open Go.RowKit

theorem roomB_iff (l : List (Int × Int)) : roomB l = true ↔ (3 ≤ l.length ∧ l.length ≤ 10) ∧ allok l = true ∧ (∀ i, i < l.length → tn l i ≠ 0) ∧ (∀ i k, i < l.length → k < l.length → askS l i k = true → mt l i k = false) ∧ 0 < areaZ l := by
  rw [← roomB_spec]
  unfold sizeB rowS
  simp only [Bool.and_eq_true, decide_eq_true_eq, List.all_eq_true, List.mem_range, Bool.not_eq_true', decide_eq_false_iff_not, Bool.and_eq_false_iff]
  constructor
  · rintro ⟨h1, h2, h3, h4⟩
    refine ⟨h1, h2, fun i hi => (h3 i hi).1, fun i k hi hk ha => ?_, h4⟩
    rcases (h3 i hi).2 k hk with h | h
    · rw [ha] at h; cases h
    · exact h
  · rintro ⟨h1, h2, h3, h4, h5⟩
    refine ⟨h1, h2, fun i hi => ⟨h3 i hi, fun k hk => ?_⟩, h5⟩
    cases ha : askS l i k
    · exact .inl rfl
    · exact .inr (h4 i k hi hk ha)

/-! ## Sums -/
def sm (f : Nat → Int) : Nat → Int
  | 0 => 0
  | k + 1 => sm f k + f k
theorem sm_congr (f g : Nat → Int) : ∀ n, (∀ i, i < n → f i = g i) → sm f n = sm g n
  | 0, _ => rfl
  | n + 1, h => by rw [sm, sm, sm_congr f g n (fun i hi => h i (by omega)), h n (by omega)]
theorem sm_split (f : Nat → Int) (a : Nat) : ∀ b, sm f (a + b) = sm f a + sm (fun i => f (a + i)) b
  | 0 => by simp [sm]
  | b + 1 => by rw [← Nat.add_assoc, sm, sm_split f a b, sm]; omega
theorem sm_rot (f : Nat → Int) {n m : Nat} (hm : m < n) : sm (fun i => f ((m + i) % n)) n = sm f n := by
  obtain ⟨q, rfl⟩ : ∃ q, n = q + m := ⟨n - m, by omega⟩
  have h1 := sm_split (fun i => f ((m + i) % (q + m))) q m
  have h2 := sm_split f m q
  rw [Nat.add_comm m q] at h2
  rw [h1, h2]
  have e1 : sm (fun i => f ((m + i) % (q + m))) q = sm (fun i => f (m + i)) q := sm_congr _ _ q fun i hi => by
    show f ((m + i) % (q + m)) = f (m + i)
    rw [Nat.mod_eq_of_lt (by omega)]
  have e2 : sm (fun i => f ((m + (q + i)) % (q + m))) m = sm f m := sm_congr _ _ m fun i hi => by
    show f ((m + (q + i)) % (q + m)) = f i
    rw [show m + (q + i) = i + (q + m) by omega, Nat.add_mod_right, Nat.mod_eq_of_lt (by omega)]
  rw [e1, e2]
  omega
theorem sm_add (f g : Nat → Int) : ∀ n, sm (fun i => f i + g i) n = sm f n + sm g n
  | 0 => rfl
  | n + 1 => by rw [sm, sm, sm, sm_add f g n]; omega
theorem sm_mul (c : Int) (f : Nat → Int) : ∀ n, sm (fun i => c * f i) n = c * sm f n
  | 0 => by simp [sm]
  | n + 1 => by rw [sm, sm, sm_mul c f n, Int.mul_add]
theorem areaTo_sm (l : List (Int × Int)) : ∀ k, areaTo l k = sm (fun i => gx l i * gy l (nx l i) - gy l i * gx l (nx l i)) k
  | 0 => rfl
  | k + 1 => by rw [areaTo_succ, areaTo_sm l k]; rfl
/-- a round trip ends where it began -/
theorem sm_trip (f : Nat → Int) {n : Nat} (hn : 1 < n) : sm (fun i => f ((i + 1) % n) - f i) n = 0 := by
  have h1 := sm_rot f hn
  have h2 : sm (fun i => f ((1 + i) % n)) n = sm (fun i => f ((i + 1) % n)) n := sm_congr _ _ n fun i _ => by rw [Nat.add_comm]
  have h3 := sm_add (fun i => f ((i + 1) % n) - f i) f n
  have h4 : sm (fun i => f ((i + 1) % n) - f i + f i) n = sm (fun i => f ((i + 1) % n)) n := sm_congr _ _ n fun i _ => by omega
  rw [h4] at h3
  omega

/-! ## Begun elsewhere -/
section
variable {l : List (Int × Int)} {m : Nat}
theorem getD_start (hm : m < l.length) {i : Nat} (hi : i < l.length) : (startL l m).getD i (0, 0) = l.getD ((m + i) % l.length) (0, 0) := by
  rw [← rotL_full hm, rotL, List.getD_eq_getElem?_getD, List.getElem?_map, List.getElem?_range hi]
  rfl
theorem gx_start (hm : m < l.length) {i : Nat} (hi : i < l.length) : gx (startL l m) i = gx l ((m + i) % l.length) := by unfold gx; rw [getD_start hm hi]
theorem gy_start (hm : m < l.length) {i : Nat} (hi : i < l.length) : gy (startL l m) i = gy l ((m + i) % l.length) := by unfold gy; rw [getD_start hm hi]
theorem nx_start {i : Nat} : nx (startL l m) i = (i + 1) % l.length := by unfold nx; rw [startL_length]
theorem shift_mod (n m i d : Nat) : (m + (i + d) % n) % n = ((m + i) % n + d) % n := by
  rw [Nat.add_mod_mod, Nat.mod_add_mod, Nat.add_assoc]
theorem shift_inj {n m i k : Nat} (hi : i < n) (hk : k < n) (hm : m < n) : (m + i) % n = (m + k) % n ↔ i = k := by
  constructor
  · intro h
    rw [mod_two (by omega), mod_two (by omega)] at h
    split at h <;> split at h <;> omega
  · rintro rfl; rfl
theorem tn_start (hm : m < l.length) {i : Nat} (hi : i < l.length) : tn (startL l m) i = tn l ((m + i) % l.length) := by
  have h0 : 0 < l.length := by omega
  unfold tn
  rw [nx_start, startL_length, gx_start hm hi, gy_start hm hi, gx_start hm (Nat.mod_lt _ h0), gy_start hm (Nat.mod_lt _ h0), gx_start hm (Nat.mod_lt _ h0), gy_start hm (Nat.mod_lt _ h0), shift_mod, shift_mod]
  rfl
theorem mt_start (hm : m < l.length) {i k : Nat} (hi : i < l.length) (hk : k < l.length) : mt (startL l m) i k = mt l ((m + i) % l.length) ((m + k) % l.length) := by
  have h0 : 0 < l.length := by omega
  unfold mt
  rw [nx_start, nx_start, gx_start hm hi, gy_start hm hi, gx_start hm hk, gy_start hm hk, gx_start hm (Nat.mod_lt _ h0), gy_start hm (Nat.mod_lt _ h0), gx_start hm (Nat.mod_lt _ h0), gy_start hm (Nat.mod_lt _ h0), shift_mod, shift_mod]
  rfl
theorem askS_start (hm : m < l.length) {i k : Nat} (hi : i < l.length) (hk : k < l.length) : askS (startL l m) i k = askS l ((m + i) % l.length) ((m + k) % l.length) := by
  have h0 : 0 < l.length := by omega
  have b : ∀ a c : Nat, a < l.length → c < l.length → ((m + a) % l.length == (m + c) % l.length) = (a == c) := fun a c ha hc => by
    rw [Bool.eq_iff_iff, beq_iff_eq, beq_iff_eq]
    exact shift_inj ha hc hm
  unfold askS
  rw [startL_length, ← shift_mod, ← shift_mod, b k i hk hi, b ((k + 1) % l.length) i (Nat.mod_lt _ h0) hi, b ((i + 1) % l.length) k (Nat.mod_lt _ h0) hk]
theorem area_start (hm : m < l.length) : areaZ (startL l m) = areaZ l := by
  have h0 : 0 < l.length := by omega
  unfold areaZ
  rw [areaTo_sm, areaTo_sm, startL_length, ← sm_rot (fun i => gx l i * gy l (nx l i) - gy l i * gx l (nx l i)) hm]
  refine sm_congr _ _ _ fun i hi => ?_
  rw [nx_start, gx_start hm hi, gy_start hm hi, gx_start hm (Nat.mod_lt _ h0), gy_start hm (Nat.mod_lt _ h0), shift_mod]
  rfl
theorem mem_start {p : Int × Int} : p ∈ startL l m ↔ p ∈ l := by
  unfold startL
  rw [List.mem_append]
  constructor
  · rintro (h | h)
    · exact List.mem_of_mem_drop h
    · exact List.mem_of_mem_take h
  · intro h
    rw [← List.take_append_drop m l, List.mem_append] at h
    exact h.symm
theorem room_start (hm : m < l.length) (hr : roomB l = true) : roomB (startL l m) = true := by
  obtain ⟨h1, h2, h3, h4, h5⟩ := (roomB_iff l).1 hr
  have h0 : 0 < l.length := by omega
  refine (roomB_iff _).2 ⟨by rw [startL_length]; exact h1, ?_, ?_, ?_, by rw [area_start hm]; exact h5⟩
  · unfold allok at *
    rw [List.all_eq_true] at *
    exact fun p hp => h2 p (mem_start.1 hp)
  · intro i hi
    rw [startL_length] at hi
    rw [tn_start hm hi]
    exact h3 _ (Nat.mod_lt _ h0)
  · intro i k hi hk ha
    rw [startL_length] at hi hk
    rw [askS_start hm hi hk] at ha
    rw [mt_start hm hi hk]
    exact h4 _ _ (Nat.mod_lt _ h0) (Nat.mod_lt _ h0) ha
/-- begun elsewhere and begun again -/
theorem start_start {k : Nat} (hk : k < l.length) : startL (startL l k) ((l.length - k) % l.length) = l := by
  rcases Nat.eq_zero_or_pos k with rfl | h
  · rw [Nat.sub_zero, Nat.mod_self]
    simp [startL]
  · rw [Nat.mod_eq_of_lt (by omega)]
    unfold startL
    have e : (l.drop k).length = l.length - k := by simp
    rw [← e, List.drop_left, List.take_left, List.take_append_drop]
end

/-! ## Turned and moved -/
section
variable {t : Nat} {dx : Int}
theorem trn_turn (a b c : Int × Int) : turnZ (trn t dx a).1 (trn t dx a).2 (trn t dx b).1 (trn t dx b).2 (trn t dx c).1 (trn t dx c).2 = turnZ a.1 a.2 b.1 b.2 c.1 c.2 := by
  unfold trn turnZ
  split
  · grind
  · split <;> grind
theorem trn_on (a b c : Int × Int) : OnZ (trn t dx a) (trn t dx b) (trn t dx c) ↔ OnZ a b c := by
  unfold OnZ
  rw [trn_turn]
  unfold trn
  split
  · constructor <;> (rintro ⟨h1, h2, h3⟩; refine ⟨h1, ?_, ?_⟩ <;> (simp only at *; omega))
  · split
    · constructor <;> (rintro ⟨h1, h2, h3⟩; refine ⟨h1, ?_, ?_⟩ <;> (simp only at *; omega))
    · constructor <;> (rintro ⟨h1, h2, h3⟩; refine ⟨h1, ?_, ?_⟩ <;> (simp only at *; omega))
theorem trn_inj {a b : Int × Int} : trn t dx a = trn t dx b ↔ a = b := by
  constructor
  · intro h
    unfold trn at h
    split at h
    · injection h with h1 h2; exact Prod.ext (by omega) (by omega)
    · split at h
      · injection h with h1 h2; exact Prod.ext (by omega) (by omega)
      · injection h with h1 h2; exact Prod.ext (by omega) (by omega)
  · rintro rfl; rfl

theorem sgn_turn {ax ay bx by_ cx cy ax' ay' bx' by' cx' cy' : Int} (h1 : within 1000000 ax ay) (h2 : within 1000000 bx by_) (h3 : within 1000000 cx cy) (h1' : within 1000000 ax' ay') (h2' : within 1000000 bx' by') (h3' : within 1000000 cx' cy') (h : turnZ ax' ay' bx' by' cx' cy' = turnZ ax ay bx by_ cx cy) : turnW ax' ay' bx' by' cx' cy' = turnW ax ay bx by_ cx cy := by
  rw [turnW_eq h1 h2 h3, turnW_eq h1' h2' h3', h]

/-- a point and its image are points of the map -/
def Both (t : Nat) (dx : Int) (p : Int × Int) : Prop := pok p.1 p.2 = true ∧ pok (trn t dx p).1 (trn t dx p).2 = true
theorem Both.w {p : Int × Int} (h : Both t dx p) : within 1000000 p.1 p.2 ∧ within 1000000 (trn t dx p).1 (trn t dx p).2 := ⟨within_more (within_of_pok h.1) (by omega), within_more (within_of_pok h.2) (by omega)⟩
theorem trn_turnW {a b c : Int × Int} (ha : Both t dx a) (hb : Both t dx b) (hc : Both t dx c) : turnW (trn t dx a).1 (trn t dx a).2 (trn t dx b).1 (trn t dx b).2 (trn t dx c).1 (trn t dx c).2 = turnW a.1 a.2 b.1 b.2 c.1 c.2 :=
  sgn_turn ha.w.1 hb.w.1 hc.w.1 ha.w.2 hb.w.2 hc.w.2 (trn_turn a b c)
theorem trn_onW {a b c : Int × Int} (ha : Both t dx a) (hb : Both t dx b) (hc : Both t dx c) : onW (trn t dx c).1 (trn t dx c).2 (trn t dx a).1 (trn t dx a).2 (trn t dx b).1 (trn t dx b).2 = onW c.1 c.2 a.1 a.2 b.1 b.2 := by
  rw [Bool.eq_iff_iff, onW_iff ha.w.2 hb.w.2 hc.w.2, onW_iff ha.w.1 hb.w.1 hc.w.1]
  exact trn_on a b c
theorem trn_wok {a b : Int × Int} (ha : Both t dx a) (hb : Both t dx b) : wok (trn t dx a).1 (trn t dx a).2 (trn t dx b).1 (trn t dx b).2 = wok a.1 a.2 b.1 b.2 := by
  have e : neB (trn t dx a).1 (trn t dx a).2 (trn t dx b).1 (trn t dx b).2 = neB a.1 a.2 b.1 b.2 := by
    have h : ∀ p q : Int × Int, neB p.1 p.2 q.1 q.2 = decide (p ≠ q) := fun p q => by
      unfold neB
      rw [Bool.eq_iff_iff, Bool.not_eq_true', Bool.and_eq_false_iff, beq_eq_false_iff_ne, beq_eq_false_iff_ne, decide_eq_true_eq]
      constructor
      · rintro (h | h) rfl <;> exact h rfl
      · intro h
        by_cases e1 : p.1 = q.1
        · exact .inr fun e2 => h (Prod.ext e1 e2)
        · exact .inl e1
    rw [h, h, Bool.eq_iff_iff, decide_eq_true_eq, decide_eq_true_eq, ne_eq, ne_eq, trn_inj]
  unfold wok pok2
  rw [e, ha.1, ha.2, hb.1, hb.2]
theorem trn_meet {a b c d : Int × Int} (ha : Both t dx a) (hb : Both t dx b) (hc : Both t dx c) (hd : Both t dx d) : meetV (trn t dx a).1 (trn t dx a).2 (trn t dx b).1 (trn t dx b).2 (trn t dx c).1 (trn t dx c).2 (trn t dx d).1 (trn t dx d).2 = meetV a.1 a.2 b.1 b.2 c.1 c.2 d.1 d.2 := by
  unfold meetV crossB sideB
  rw [trn_wok ha hb, trn_wok hc hd, trn_turnW hc hd ha, trn_turnW hc hd hb, trn_turnW ha hb hc, trn_turnW ha hb hd, trn_onW hc hd ha, trn_onW hc hd hb, trn_onW ha hb hc, trn_onW ha hb hd]

variable {l : List (Int × Int)}
theorem getD_map {i : Nat} (hi : i < l.length) : (l.map (trn t dx)).getD i (0, 0) = trn t dx (gx l i, gy l i) := by
  rw [List.getD_eq_getElem?_getD, List.getElem?_map, List.getElem?_eq_getElem hi]
  have e : l[i] = (gx l i, gy l i) := by
    have e2 : (gx l i, gy l i) = l.getD i (0, 0) := rfl
    rw [e2, List.getD_eq_getElem?_getD, List.getElem?_eq_getElem hi]
    rfl
  rw [e]
  rfl
theorem gx_map {i : Nat} (hi : i < l.length) : gx (l.map (trn t dx)) i = (trn t dx (gx l i, gy l i)).1 := by unfold gx; rw [getD_map hi]; rfl
theorem gy_map {i : Nat} (hi : i < l.length) : gy (l.map (trn t dx)) i = (trn t dx (gx l i, gy l i)).2 := by unfold gy; rw [getD_map hi]; rfl
theorem nx_map {i : Nat} : nx (l.map (trn t dx)) i = nx l i := by unfold nx; rw [List.length_map]
theorem tn_map (hb : ∀ i, i < l.length → Both t dx (gx l i, gy l i)) {i : Nat} (hi : i < l.length) : tn (l.map (trn t dx)) i = tn l i := by
  have h0 : 0 < l.length := by omega
  have h1 : nx l i < l.length := nx_lt hi
  have h2 : (i + 2) % l.length < l.length := Nat.mod_lt _ h0
  unfold tn
  rw [nx_map, List.length_map, gx_map hi, gy_map hi, gx_map h1, gy_map h1, gx_map h2, gy_map h2]
  exact trn_turnW (hb i hi) (hb _ h1) (hb _ h2)
theorem mt_map (hb : ∀ i, i < l.length → Both t dx (gx l i, gy l i)) {i k : Nat} (hi : i < l.length) (hk : k < l.length) : mt (l.map (trn t dx)) i k = mt l i k := by
  have h1 : nx l i < l.length := nx_lt hi
  have h2 : nx l k < l.length := nx_lt hk
  unfold mt
  rw [nx_map, nx_map, gx_map hi, gy_map hi, gx_map h1, gy_map h1, gx_map hk, gy_map hk, gx_map h2, gy_map h2]
  exact trn_meet (hb i hi) (hb _ h1) (hb k hk) (hb _ h2)
theorem askS_map {i k : Nat} : askS (l.map (trn t dx)) i k = askS l i k := by unfold askS; rw [List.length_map]
theorem area_map (h3 : 3 ≤ l.length) : areaZ (l.map (trn t dx)) = areaZ l := by
  have h1 : 1 < l.length := by omega
  unfold areaZ
  rw [areaTo_sm, areaTo_sm, List.length_map]
  have hX := sm_trip (gx l) h1
  have hY := sm_trip (gy l) h1
  have key : ∀ (c : Int) (f : Nat → Int), sm (fun i => f ((i + 1) % l.length) - f i) l.length = 0 → (∀ i, i < l.length → gx (l.map (trn t dx)) i * gy (l.map (trn t dx)) (nx (l.map (trn t dx)) i) - gy (l.map (trn t dx)) i * gx (l.map (trn t dx)) (nx (l.map (trn t dx)) i) = (gx l i * gy l (nx l i) - gy l i * gx l (nx l i)) + c * (f ((i + 1) % l.length) - f i)) → sm (fun i => gx (l.map (trn t dx)) i * gy (l.map (trn t dx)) (nx (l.map (trn t dx)) i) - gy (l.map (trn t dx)) i * gx (l.map (trn t dx)) (nx (l.map (trn t dx)) i)) l.length = sm (fun i => gx l i * gy l (nx l i) - gy l i * gx l (nx l i)) l.length := fun c f hf he => by
    rw [sm_congr _ _ _ he, sm_add (fun i => gx l i * gy l (nx l i) - gy l i * gx l (nx l i)) (fun i => c * (f ((i + 1) % l.length) - f i)), sm_mul, hf]
    omega
  by_cases h : t = 1
  · refine key dx (gx l) hX fun i hi => ?_
    rw [nx_map, gx_map hi, gy_map hi, gx_map (nx_lt hi), gy_map (nx_lt hi)]
    simp only [trn, if_pos h]
    unfold nx
    grind
  · by_cases h2 : t = 2
    · refine key (-dx) (gy l) hY fun i hi => ?_
      rw [nx_map, gx_map hi, gy_map hi, gx_map (nx_lt hi), gy_map (nx_lt hi)]
      simp only [trn, if_neg h, if_pos h2]
      unfold nx
      grind
    · refine key dx (gy l) hY fun i hi => ?_
      rw [nx_map, gx_map hi, gy_map hi, gx_map (nx_lt hi), gy_map (nx_lt hi)]
      simp only [trn, if_neg h, if_neg h2]
      unfold nx
      grind
theorem room_map (hb : ∀ i, i < l.length → Both t dx (gx l i, gy l i)) (hr : roomB l = true) : roomB (l.map (trn t dx)) = true := by
  obtain ⟨h1, h2, h3, h4, h5⟩ := (roomB_iff l).1 hr
  refine (roomB_iff _).2 ⟨by rw [List.length_map]; exact h1, ?_, ?_, ?_, by rw [area_map h1.1]; exact h5⟩
  · unfold allok at *
    rw [List.all_eq_true] at *
    intro p hp
    obtain ⟨q, hq, rfl⟩ := List.mem_map.1 hp
    obtain ⟨i, hi, rfl⟩ := List.getElem_of_mem hq
    have e : l[i] = (gx l i, gy l i) := by
      have e2 : (gx l i, gy l i) = l.getD i (0, 0) := rfl
      rw [e2, List.getD_eq_getElem?_getD, List.getElem?_eq_getElem hi]
      rfl
    rw [e]
    exact (hb i hi).2
  · intro i hi
    rw [List.length_map] at hi
    rw [tn_map hb hi]
    exact h3 i hi
  · intro i k hi hk ha
    rw [List.length_map] at hi hk
    rw [askS_map] at ha
    rw [mt_map hb hi hk]
    exact h4 i k hi hk ha
end

/-! ## What may be drawn is a room -/
theorem shp_room : ∀ s, s < 8 → roomB (shp s) = true := by
  have h : ((List.range 8).all fun s => roomB (shp s)) = true := by decide +kernel
  intro s hs
  exact List.all_eq_true.1 h s (List.mem_range.2 hs)
theorem Reach.room {s j : Nat} {l : List (Int × Int)} (h : Reach s j l) (hs : s < 8) : roomB l = true := by
  induction h with
  | base => exact shp_room s hs
  | stay _ ih => exact ih
  | move _ _ _ _ hr _ => exact hr
theorem both_small {t : Nat} {dx : Int} {p : Int × Int} (hp : (-3 ≤ p.1 ∧ p.1 ≤ 13) ∧ (-3 ≤ p.2 ∧ p.2 ≤ 13)) (hd : -2 ≤ dx ∧ dx ≤ 2) : Both t dx p := by
  unfold Both
  rw [pok_iff, pok_iff]
  unfold trn
  split
  · simp only; omega
  · split <;> (simp only; omega)
/-- what a drawn room is -/
theorem Drawn.facts {L : List (Int × Int)} (h : Drawn L) : roomB L = true ∧ ∀ p, p ∈ L → (-15 ≤ p.1 ∧ p.1 ≤ 15) ∧ (-13 ≤ p.2 ∧ p.2 ≤ 13) := by
  obtain ⟨s, j, t, m, l, dx, hs, hj, hre, ht, hm, hd, rfl⟩ := h
  have hb := hre.bd
  have hb2 : ∀ p, p ∈ startL l m → (-3 ≤ p.1 ∧ p.1 ≤ 13) ∧ (-3 ≤ p.2 ∧ p.2 ≤ 13) := fun p hp => by have := hb p (mem_start.1 hp); omega
  refine ⟨room_map (fun i hi => both_small (hb2 _ (g_mem' hi)) hd) (room_start hm (hre.room hs)), fun p hp => ?_⟩
  obtain ⟨q, hq, rfl⟩ := List.mem_map.1 hp
  have := hb2 q hq
  unfold trn
  split
  · simp only; omega
  · split <;> (simp only; omega)

end Go.Proofs.Ytanagdlikoinaaa
