/-
  The plain law: the fields of a line, each followed by a space, have the same fields; and the drawn lines.
-/
import Derived.Test.YtkdhgngpapfkdaaDoorSplit
import Derived.Test.YtkdhgngpapfkdaaDoorSMark
import Derived.Test.YtkdhgngpapfkdaaDoorDraw3
import Derived.Test.YtkdhgngpapfkdaaDoorParse
namespace Go.Proofs.YtkdhgngpapfkdaaDoor
open Go.RowKit

theorem byl_extract (s : ByteArray) (a b : Nat) : byl (s.extract a b) = ((byl s).drop a).take (b - a) := by
  have h := ByteArray.extract_mk (byl s) a b
  rw [mk_byl] at h
  rw [h, byl_mk]
theorem by8_get {s : ByteArray} {k : Nat} (h : k < s.size) : (byl s)[k]? = some (by8 s k) := by
  have h2 : k < (byl s).length := by rw [byl_length]; exact h
  simp [by8, List.getD_eq_getElem?_getD, List.getElem?_eq_getElem h2]
theorem ba_ext {a b : ByteArray} (h : byl a = byl b) : a = b := by rw [← mk_byl a, h, mk_byl]

/-- a field as a line has it -/
def goodF (f : ByteArray) : Prop := 0 < f.size ∧ f.size ≤ 600 ∧ ∀ q, q < f.size → by8 f q ≠ 32 ∧ okB (by8 f q) = true

theorem fields_good {s : ByteArray} (hs : s.size ≤ 600) (hk : okK s s.size) : ∀ i, (∀ f ∈ (stF s i).1, goodF f) ∧ (∀ q, (stF s i).2 ≤ q → q < i → q < s.size ∧ by8 s q ≠ 32)
  | 0 => ⟨fun f hf => by simp [stF] at hf, fun q _ h => absurd h (by omega)⟩
  | i + 1 => by
    obtain ⟨h1, h2⟩ := fields_good hs hk i
    by_cases h : i < s.size ∧ by8 s i ≠ 32
    · rw [stF_on h.1 h.2]
      refine ⟨h1, fun q a b => ?_⟩
      rcases Nat.lt_or_eq_of_le (Nat.lt_succ_iff.1 b) with c | c
      · exact h2 q a c
      · rw [c]; exact h
    · by_cases hb : (stF s i).2 < i
      · rw [stF_off h hb]
        refine ⟨fun f hf => ?_, fun q a b => absurd a (by simp only; omega)⟩
        rw [List.mem_append] at hf
        rcases hf with hf | hf
        · exact h1 f hf
        · rw [List.mem_singleton.1 hf]
          have hi : i ≤ s.size := by have := (h2 (i - 1) (by omega) (by omega)).1; omega
          have hb2 := byl_extract s (stF s i).2 i
          have hz : (s.extract (stF s i).2 i).size = i - (stF s i).2 := by
            rw [← byl_length, hb2, List.length_take, List.length_drop, byl_length]; omega
          refine ⟨by omega, by omega, fun q hq => ?_⟩
          have e : by8 (s.extract (stF s i).2 i) q = by8 s ((stF s i).2 + q) := by
            have e1 := by8_get hq
            rw [hb2, List.getElem?_take, if_pos (by omega), List.getElem?_drop, by8_get (by omega)] at e1
            exact (Option.some.inj e1).symm
          rw [e]
          exact ⟨(h2 _ (by omega) (by omega)).2, hk _ (by omega) (by omega)⟩
      · rw [stF_off' h hb]
        exact ⟨h1, fun q a b => absurd a (by simp only; omega)⟩

def spB : ByteArray := ⟨#[32]⟩
/-- fields, each followed by a space -/
def joinK (l : List ByteArray) (k : Nat) : ByteArray := (l.take k).foldl (fun s f => (s ++ f) ++ spB) ⟨#[]⟩
def joinL (l : List ByteArray) : List UInt8 := l.flatMap fun f => byl f ++ [32]
theorem joinK_succ (l : List ByteArray) (k : Nat) (h : k < l.length) : joinK l (k + 1) = (joinK l k ++ l[k]) ++ spB := by
  unfold joinK
  rw [List.take_succ_eq_append_getElem h, List.foldl_append]
  rfl
theorem joinL_append (a b : List ByteArray) : joinL (a ++ b) = joinL a ++ joinL b := by simp [joinL]
theorem byl_app (a b : ByteArray) : byl (a ++ b) = byl a ++ byl b := by simp [byl]
theorem byl_joinK (l : List ByteArray) : ∀ k, k ≤ l.length → byl (joinK l k) = joinL (l.take k)
  | 0, _ => by simp [joinK, joinL, byl]
  | k + 1, h => by
    rw [joinK_succ l k h, byl_app, byl_app, byl_joinK l k (by omega), List.take_succ_eq_append_getElem h, joinL_append, List.append_assoc]
    simp [joinL, spB, byl]
theorem joinK_size (l : List ByteArray) (hl : ∀ f ∈ l, goodF f) : ∀ k, k ≤ l.length → (joinK l k).size ≤ k * 601
  | 0, _ => by show (ByteArray.size ⟨#[]⟩) ≤ 0 * 601; decide
  | k + 1, h => by
    have h1 := joinK_size l hl k (by omega)
    have h2 := (hl l[k] (List.getElem_mem _)).2.1
    rw [joinK_succ l k h, ByteArray.size_append', ByteArray.size_append']
    have h3 : spB.size = 1 := rfl
    omega

theorem split_join {l : List ByteArray} {t : ByteArray} (ht : byl t = joinL l) (hl : ∀ f ∈ l, goodF f) : ∀ l1, ∀ l2, l = l1 ++ l2 → stF t (joinL l1).length = (l1, (joinL l1).length) := by
  intro l1
  induction l1 using snoc_ind with
  | h0 => intro l2 _; rfl
  | h1 l1 f ih =>
    intro l2 e
    have hf := hl f (by rw [e]; simp)
    have e2 : l = l1 ++ ([f] ++ l2) := by rw [e, List.append_assoc]
    have h := ih ([f] ++ l2) e2
    obtain ⟨p, hp⟩ : ∃ p, p = (joinL l1).length := ⟨_, rfl⟩
    rw [← hp] at h
    have hbt : byl t = joinL l1 ++ (byl f ++ ([32] ++ joinL l2)) := by
      rw [ht, e2, joinL_append, joinL_append]
      simp [joinL]
    have hfl : (byl f).length = f.size := byl_length f
    have hsz : t.size = p + f.size + 1 + (joinL l2).length := by
      rw [← byl_length, hbt]
      simp only [List.length_append, List.length_singleton]
      omega
    have hat : ∀ q, q < f.size → by8 t (p + q) = by8 f q := fun q hq => by
      have e1 := by8_get (s := t) (k := p + q) (by omega)
      rw [hbt, List.getElem?_append_right (by omega), List.getElem?_append_left (by omega), show p + q - (joinL l1).length = q by omega, by8_get hq] at e1
      exact (Option.some.inj e1).symm
    have hend : by8 t (p + f.size) = 32 := by
      have e1 := by8_get (s := t) (k := p + f.size) (by omega)
      rw [hbt, List.getElem?_append_right (by omega), List.getElem?_append_right (by omega), show p + f.size - (joinL l1).length - (byl f).length = 0 by omega] at e1
      exact (Option.some.inj e1).symm
    have hrun := stF_run h (p + f.size) (by omega) (by omega) (fun q a b => by
      have := hat (q - p) (by omega)
      rw [show p + (q - p) = q by omega] at this
      rw [this]
      exact (hf.2.2 _ (by omega)).1)
    have hoff := stF_off (s := t) (i := p + f.size) (fun h => h.2 hend) (by rw [hrun]; have := hf.1; simp only; omega)
    rw [hrun] at hoff
    have hx : t.extract p (p + f.size) = f := by
      apply ba_ext
      rw [byl_extract, hbt, show p + f.size - p = f.size by omega, hp, List.drop_left, ← hfl, List.take_left]
    have hlen : (joinL (l1 ++ [f])).length = p + f.size + 1 := by
      rw [joinL_append, List.length_append, ← hp]
      simp only [joinL, List.flatMap_cons, List.flatMap_nil, List.append_nil, List.length_append, List.length_singleton]
      omega
    rw [hlen, hoff, hx]

/-- the fields of a line, each followed by a space, have the same fields -/
theorem split_again {l : List ByteArray} (hl : ∀ f ∈ l, goodF f) (hc : l.length ≤ 24) (hz : (joinK l l.length).size ≤ 600) : splitV (joinK l l.length) = (l, true) := by
  obtain ⟨t, ht⟩ : ∃ t, t = joinK l l.length := ⟨_, rfl⟩
  have hb : byl t = joinL l := by rw [ht, byl_joinK l _ (Nat.le_refl _), List.take_length]
  have h := split_join hb hl l [] (by simp)
  have hsz : t.size = (joinL l).length := by rw [← byl_length, hb]
  rw [← hsz] at h
  have h2 := stF_off' (s := t) (i := t.size) (fun h => absurd h.1 (by omega)) (by rw [h]; simp)
  rw [h] at h2
  have hok : okK t t.size := fun q _ hq => by
    have hm : by8 t q ∈ joinL l := by
      rw [← hb]
      exact List.mem_of_getElem? (by8_get hq)
    simp only [joinL, List.mem_flatMap, List.mem_append, List.mem_singleton] at hm
    obtain ⟨f, hf, hm⟩ := hm
    rcases hm with hm | hm
    · obtain ⟨j, hj, e⟩ := List.mem_iff_getElem.1 hm
      rw [byl_length] at hj
      have e2 := by8_get hj
      rw [List.getElem?_eq_getElem (by rw [byl_length]; exact hj), e] at e2
      rw [Option.some.inj e2]
      exact ((hl f hf).2.2 j hj).2
    · rw [hm]; rfl
  rw [← ht] at hz ⊢
  rw [splitV_yes ⟨hz, hok, by rw [h2]; exact hc⟩, h2]

theorem splitV_good {s : ByteArray} {l : List ByteArray} (h : splitV s = (l, true)) : l.length ≤ 24 ∧ ∀ f ∈ l, goodF f := by
  by_cases hk : splitOk s
  · rw [splitV_yes hk] at h
    injection h with h1 _
    rw [← h1]
    exact ⟨hk.2.2, (fields_good hk.1 hk.2.1 _).1⟩
  · rw [splitV_no hk] at h
    injection h with _ h2
    cases h2
theorem splitV_bad {s : ByteArray} {l : List ByteArray} (h : splitV s = (l, false)) : l = [] := by
  by_cases hk : splitOk s
  · rw [splitV_yes hk] at h
    injection h with _ h2
    cases h2
  · rw [splitV_no hk] at h
    injection h with h1 _
    exact h1.symm

end Go.Proofs.YtkdhgngpapfkdaaDoor
