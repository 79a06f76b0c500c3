/-
  Closed facts of the program that every law's frame names.
-/
import Derived.Test.YtnomiefjefopbaaRows
import Derived.Test.YtnomiefjefopbaaBase
namespace Go.Proofs.Ytnomiefjefopbaa
open Go.ChangeShapes Go.WideShapes Go.ChangeAt Go.RowKit

theorem own : ownKnob Try.prog.godebug = none := by kernel_rfl

theorem laidOut : laidOutB Try.prog = true := by kernel_rfl

/-- the signs ahead of the first space, and those behind it -/
def wordCutB : List Char → Option (List Char × List Char)
  | [] => none
  | c :: r => if c == Char.ofNat 32 then some ([], r) else (wordCutB r).map fun p => (c :: p.1, p.2)
def word1 (l : List Char) : List Char := ((wordCutB l).getD ([], [])).1
def rest1 (l : List Char) : List Char := ((wordCutB l).getD ([], [])).2

theorem words_cut : ∀ l : List Char, (wordCutB l).isSome = true → wordsSigns l = word1 l :: wordsSigns (rest1 l)
  | [], h => by simp [wordCutB] at h
  | c :: r, h => by
    by_cases hc : c = Char.ofNat 32
    · subst hc
      rfl
    · have hb : (c == Char.ofNat 32) = false := by simpa using hc
      have h' : (wordCutB r).isSome = true := by simpa [wordCutB, hb] using h
      have ih := words_cut r h'
      have e : wordsSigns (c :: r) = match wordsSigns r with | w :: ws => (c :: w) :: ws | [] => [[c]] := by
        rw [wordsSigns]
        · rfl
        · exact hc
      rw [e, ih]
      obtain ⟨p, hp⟩ := Option.isSome_iff_exists.1 h'
      simp [word1, rest1, wordCutB, hb, hp]

def isig : List Char := [Char.ofNat 104, Char.ofNat 97, Char.ofNat 114, Char.ofNat 110, Char.ofNat 101, Char.ofNat 115, Char.ofNat 115, Char.ofNat 32, Char.ofNat 101, Char.ofNat 101, Char.ofNat 52, Char.ofNat 52, Char.ofNat 99, Char.ofNat 57, Char.ofNat 100, Char.ofNat 97, Char.ofNat 48, Char.ofNat 56, Char.ofNat 53, Char.ofNat 102, Char.ofNat 49, Char.ofNat 57, Char.ofNat 53, Char.ofNat 97, Char.ofNat 97, Char.ofNat 98, Char.ofNat 51, Char.ofNat 56, Char.ofNat 55, Char.ofNat 100, Char.ofNat 50, Char.ofNat 51, Char.ofNat 57, Char.ofNat 99, Char.ofNat 53, Char.ofNat 51, Char.ofNat 56, Char.ofNat 97, Char.ofNat 52, Char.ofNat 52, Char.ofNat 48, Char.ofNat 51, Char.ofNat 54, Char.ofNat 100, Char.ofNat 49, Char.ofNat 55, Char.ofNat 52, Char.ofNat 52, Char.ofNat 97, Char.ofNat 98, Char.ofNat 52, Char.ofNat 49, Char.ofNat 54, Char.ofNat 49, Char.ofNat 99, Char.ofNat 98, Char.ofNat 98, Char.ofNat 51, Char.ofNat 48, Char.ofNat 100, Char.ofNat 51, Char.ofNat 48, Char.ofNat 49, Char.ofNat 56, Char.ofNat 51, Char.ofNat 52, Char.ofNat 97, Char.ofNat 57, Char.ofNat 49, Char.ofNat 50, Char.ofNat 101, Char.ofNat 98, Char.ofNat 32, Char.ofNat 99, Char.ofNat 117, Char.ofNat 116, Char.ofNat 32, Char.ofNat 97, Char.ofNat 116, Char.ofNat 32, Char.ofNat 108, Char.ofNat 111, Char.ofNat 111, Char.ofNat 112, Char.ofNat 46, Char.ofNat 101, Char.ofNat 120, Char.ofNat 97, Char.ofNat 109, Char.ofNat 112, Char.ofNat 108, Char.ofNat 101, Char.ofNat 47, Char.ofNat 103, Char.ofNat 48, Char.ofNat 48, Char.ofNat 57, Char.ofNat 57, Char.ofNat 49, Char.ofNat 47, Char.ofNat 108, Char.ofNat 97, Char.ofNat 119, Char.ofNat 115, Char.ofNat 46, Char.ofNat 70, Char.ofNat 110, Char.ofNat 84, Char.ofNat 117, Char.ofNat 114, Char.ofNat 110, Char.ofNat 115, Char.ofNat 32, Char.ofNat 108, Char.ofNat 111, Char.ofNat 111, Char.ofNat 112, Char.ofNat 46, Char.ofNat 101, Char.ofNat 120, Char.ofNat 97, Char.ofNat 109, Char.ofNat 112, Char.ofNat 108, Char.ofNat 101, Char.ofNat 47, Char.ofNat 103, Char.ofNat 48, Char.ofNat 48, Char.ofNat 57, Char.ofNat 57, Char.ofNat 49, Char.ofNat 47, Char.ofNat 108, Char.ofNat 97, Char.ofNat 119, Char.ofNat 115, Char.ofNat 46, Char.ofNat 70, Char.ofNat 110, Char.ofNat 87, Char.ofNat 97, Char.ofNat 108, Char.ofNat 108, Char.ofNat 115]

theorem initLit : Try.prog.initOrder = "harness ee44c9da085f195aab387d239c538a44036d1744ab4161cbb30d301834a912eb cut at loop.example/g00991/laws.FnTurns loop.example/g00991/laws.FnWalls" := by kernel_rfl

theorem litSigns : ("harness ee44c9da085f195aab387d239c538a44036d1744ab4161cbb30d301834a912eb cut at loop.example/g00991/laws.FnTurns loop.example/g00991/laws.FnWalls" : String) = String.ofList [Char.ofNat 104, Char.ofNat 97, Char.ofNat 114, Char.ofNat 110, Char.ofNat 101, Char.ofNat 115, Char.ofNat 115, Char.ofNat 32, Char.ofNat 101, Char.ofNat 101, Char.ofNat 52, Char.ofNat 52, Char.ofNat 99, Char.ofNat 57, Char.ofNat 100, Char.ofNat 97, Char.ofNat 48, Char.ofNat 56, Char.ofNat 53, Char.ofNat 102, Char.ofNat 49, Char.ofNat 57, Char.ofNat 53, Char.ofNat 97, Char.ofNat 97, Char.ofNat 98, Char.ofNat 51, Char.ofNat 56, Char.ofNat 55, Char.ofNat 100, Char.ofNat 50, Char.ofNat 51, Char.ofNat 57, Char.ofNat 99, Char.ofNat 53, Char.ofNat 51, Char.ofNat 56, Char.ofNat 97, Char.ofNat 52, Char.ofNat 52, Char.ofNat 48, Char.ofNat 51, Char.ofNat 54, Char.ofNat 100, Char.ofNat 49, Char.ofNat 55, Char.ofNat 52, Char.ofNat 52, Char.ofNat 97, Char.ofNat 98, Char.ofNat 52, Char.ofNat 49, Char.ofNat 54, Char.ofNat 49, Char.ofNat 99, Char.ofNat 98, Char.ofNat 98, Char.ofNat 51, Char.ofNat 48, Char.ofNat 100, Char.ofNat 51, Char.ofNat 48, Char.ofNat 49, Char.ofNat 56, Char.ofNat 51, Char.ofNat 52, Char.ofNat 97, Char.ofNat 57, Char.ofNat 49, Char.ofNat 50, Char.ofNat 101, Char.ofNat 98, Char.ofNat 32, Char.ofNat 99, Char.ofNat 117, Char.ofNat 116, Char.ofNat 32, Char.ofNat 97, Char.ofNat 116, Char.ofNat 32, Char.ofNat 108, Char.ofNat 111, Char.ofNat 111, Char.ofNat 112, Char.ofNat 46, Char.ofNat 101, Char.ofNat 120, Char.ofNat 97, Char.ofNat 109, Char.ofNat 112, Char.ofNat 108, Char.ofNat 101, Char.ofNat 47, Char.ofNat 103, Char.ofNat 48, Char.ofNat 48, Char.ofNat 57, Char.ofNat 57, Char.ofNat 49, Char.ofNat 47, Char.ofNat 108, Char.ofNat 97, Char.ofNat 119, Char.ofNat 115, Char.ofNat 46, Char.ofNat 70, Char.ofNat 110, Char.ofNat 84, Char.ofNat 117, Char.ofNat 114, Char.ofNat 110, Char.ofNat 115, Char.ofNat 32, Char.ofNat 108, Char.ofNat 111, Char.ofNat 111, Char.ofNat 112, Char.ofNat 46, Char.ofNat 101, Char.ofNat 120, Char.ofNat 97, Char.ofNat 109, Char.ofNat 112, Char.ofNat 108, Char.ofNat 101, Char.ofNat 47, Char.ofNat 103, Char.ofNat 48, Char.ofNat 48, Char.ofNat 57, Char.ofNat 57, Char.ofNat 49, Char.ofNat 47, Char.ofNat 108, Char.ofNat 97, Char.ofNat 119, Char.ofNat 115, Char.ofNat 46, Char.ofNat 70, Char.ofNat 110, Char.ofNat 87, Char.ofNat 97, Char.ofNat 108, Char.ofNat 108, Char.ofNat 115] := by kernel_rfl

theorem initSigns : Try.prog.initOrder = String.ofList isig := initLit.trans litSigns

theorem cut1 : (wordCutB isig).isSome = true := by kernel_rfl
theorem cut2 : (wordCutB (rest1 isig)).isSome = true := by kernel_rfl
theorem cut3 : (wordCutB (rest1 (rest1 isig))).isSome = true := by kernel_rfl
theorem w1_ok : word1 isig = "harness".toList := by kernel_rfl
theorem w2_ok : isSumSigns (word1 (rest1 isig)) = true := by kernel_rfl
theorem w3_ok : word1 (rest1 (rest1 isig)) = "cut".toList := by kernel_rfl
theorem harness_ok : ("harness".toList == "harness".toList || "harness".toList == "ownmain".toList) = true := by kernel_rfl

theorem behind_of (h s : List Char) (r : List (List Char)) (h1 : (h == "harness".toList || h == "ownmain".toList) = true) (h2 : isSumSigns s = true) : behindMainWord (h :: s :: r) = r := by
  show (if (h == "harness".toList || h == "ownmain".toList) && isSumSigns s then r else h :: s :: r) = r
  rw [h1, h2]
  rfl

theorem behind : ∃ rest, behindMainWord (wordsSigns Try.prog.initOrder.toList) = "cut".toList :: rest := by
  rw [initSigns, String.toList_ofList, words_cut _ cut1, words_cut _ cut2, words_cut _ cut3, w1_ok, w3_ok]
  exact ⟨_, behind_of _ _ _ harness_ok w2_ok⟩

theorem e1 : ("cut".toList == "gc".toList) = false := by kernel_rfl
theorem e2 : ("cut".toList == "spec".toList) = false := by kernel_rfl
theorem e3 : ("cut".toList == "cut".toList) = true := by kernel_rfl
theorem e4 : ("cut".toList == "carried".toList) = false := by kernel_rfl
theorem e5 (rest : List (List Char)) : stripLifts liftWords ("cut".toList :: rest) = ([], "cut".toList :: rest) := by kernel_rfl
theorem e6 : Try.prog.laysLater = false := by kernel_rfl
theorem e7 : Try.prog.bearsReflect = false := by kernel_rfl
theorem e8 : Try.prog.doorFits [] = true := by kernel_rfl

theorem mayEnter_of (P : Program) (rest : List (List Char)) (h : behindMainWord (wordsSigns P.initOrder.toList) = "cut".toList :: rest) (h1 : P.laysLater = false) (h2 : P.bearsReflect = false) (h3 : P.doorFits [] = true) : P.mayEnter = true := by
  unfold Program.mayEnter
  rw [h]
  simp only [e1, e2, e4, e5, h1, h2, h3, List.head?_cons, beq_self_eq_true, Bool.or_self, Bool.false_and, Bool.true_and, Bool.and_self, Bool.not_false, Bool.or_true, Bool.false_or]
  rfl

theorem lifts_of (P : Program) (rest : List (List Char)) (h : behindMainWord (wordsSigns P.initOrder.toList) = "cut".toList :: rest) : P.liftsFinal = false := by
  unfold Program.liftsFinal Program.headLifts
  rw [h]
  kernel_rfl

theorem make_of (P : Program) (rest : List (List Char)) (h : behindMainWord (wordsSigns P.initOrder.toList) = "cut".toList :: rest) : P.make = some .cut := by
  unfold Program.make
  rw [h]
  simp only [e1, e2, e3, Bool.or_self, Bool.true_or, Bool.false_eq_true, if_true, if_false]

theorem mayEnter_ok : Try.prog.mayEnter = true :=
  let ⟨rest, h⟩ := behind
  mayEnter_of _ rest h e6 e7 e8

theorem lifts_ok : Try.prog.liftsFinal = false :=
  let ⟨rest, h⟩ := behind
  lifts_of _ rest h

theorem make_ok : Try.prog.make = some .cut :=
  let ⟨rest, h⟩ := behind
  make_of _ rest h

end Go.Proofs.Ytnomiefjefopbaa
