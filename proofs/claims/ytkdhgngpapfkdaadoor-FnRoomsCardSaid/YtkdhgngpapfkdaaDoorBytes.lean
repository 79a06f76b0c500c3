/-
  Rows of bytes, and the strings that they make. No program in sight.
-/
import Derived.Test.YtkdhgngpapfkdaaDoorJ1
import Derived.Laws.BytesString
import Derived.Laws.IdiomStrings
import Derived.Laws.BitsLemmas
namespace Go.Proofs.YtkdhgngpapfkdaaDoor
open Go.RowKit

/-- the cells of a row of bytes -/
def u8s (l : List UInt8) : List Value := l.map fun b => .int .u8 (b.toNat : Int)
theorem u8s_append (a b : List UInt8) : u8s (a ++ b) = u8s a ++ u8s b := by simp [u8s]
theorem u8s_length (l : List UInt8) : (u8s l).length = l.length := by simp [u8s]
theorem u8s_one (l : List UInt8) : ∀ u ∈ u8s l, u.oneCell' = true := by
  intro u hu
  simp only [u8s, List.mem_map] at hu
  obtain ⟨p, _, rfl⟩ := hu
  rfl
/-- the bytes of a string -/
def byl (s : ByteArray) : List UInt8 := s.data.toList
theorem byl_length (s : ByteArray) : (byl s).length = s.size := by unfold byl; rw [Array.length_toList]; rfl
/-- byte k of a string -/
def by8 (s : ByteArray) (k : Nat) : UInt8 := (byl s).getD k 0
theorem by8_of (s : ByteArray) (k : Nat) (h : k < s.size) : s[k] = by8 s k := by
  have h2 : k < s.data.toList.length := by rw [Array.length_toList]; exact h
  unfold by8 byl
  rw [List.getD_eq_getElem?_getD, List.getElem?_eq_getElem h2]
  rfl
theorem by8_lt (s : ByteArray) (k : Nat) : (by8 s k).toNat < 256 := UInt8.toNat_lt _
theorem byl_take (s : ByteArray) (k : Nat) (h : k < s.size) : (byl s).take (k + 1) = (byl s).take k ++ [by8 s k] := by
  have h2 : k < (byl s).length := by rw [byl_length]; exact h
  rw [List.take_succ_eq_append_getElem h2]
  simp [by8, List.getD_eq_getElem?_getD, List.getElem?_eq_getElem h2]
theorem byl_full (s : ByteArray) : (byl s).take s.size = byl s := by rw [← byl_length]; exact List.take_length
theorem byl_mk (l : List UInt8) : byl ⟨l.toArray⟩ = l := by simp [byl]
theorem mk_byl (s : ByteArray) : (⟨(byl s).toArray⟩ : ByteArray) = s := by simp [byl]

/-- string(b) of a row of the call's own -/
theorem conv_own {P : Program} {w : World} {base n : Nat} {src dst e : TypeId} {v : Value} {l : List UInt8} (hs : P.underlying src = some (.slice e)) (he : P.underlying e = some (.int .u8)) (hd : P.underlying dst = some .string)
    (h : w.ownsRow base e 1 v n (u8s l)) : (convert src dst v).run P w = .ok (.string ⟨l.toArray⟩) w := by
  obtain ⟨h1, h2⟩ := h
  rw [u8s_length, Nat.mul_one] at h1
  rcases h2 with ⟨rfl, h2⟩ | ⟨g, cap, cur, rfl, _, hh, hcap, _, hsz, htake⟩
  · rw [run_convert_bytes_string w src dst e none 0 0 hs he hd]
    have : l = [] := List.eq_nil_of_length_eq_zero (by omega)
    subst this
    simp [Conv.bytesToString, Sem.run_pure]
    rfl
  · subst h1
    refine run_convert_bytes_back w src dst e ⟨g, 0, none⟩ cap l hs he hd fun j hj => ?_
    have e1 : (u8s l)[j]? = some (.int .u8 (l[j].toNat : Int)) := by simp [u8s, hj]
    rw [← htake, List.getElem?_take, if_pos (by omega)] at e1
    have e2 : (⟨g, 0, none⟩ : Addr).add j = ⟨g, j, none⟩ := by
      unfold Addr.add
      split
      · subst_vars; rfl
      · simp
    rw [e2]
    simp only [World.cell?, hh]
    simpa using e1

end Go.Proofs.YtkdhgngpapfkdaaDoor
