/-
  No cell of these rows narrows 'for every input' (looked for: loops, veiled, ifaces, maps, wideKeys, modest, calm, conditions, laid).
  DERIVED. THE GIVEN ROWS OF THIS SEAT. 8 by the template 'for every input the law returns true; each argument reads behind the call as it read before'; 0 by the template 'total and deterministic' (their statements: YtmccffmkfdcmmaaTotals.lean).
  GIVEN WITH THE SEED: the statements are not yours to turn. If you find one false, say at which input.
  Laid BY PROGRAM, IN A SANDBOX (cutbox-rows.mjs): the forced cells as the released guide's own fill.sh prints them over the translation dc2796e2f90106c3… (all of the seat's roots in one cut). By AI agents, Wed Nov 11 2026. No macro, syntax, notation, axiom, sorry.
-/
import Derived.Test.YtmccffmkfdcmmaaChecked
import GoSem.Claim
import GoSem.ClaimJoined
import GoSem.ClaimMapViews
import Derived.JoinedTies
import Derived.KernelRfl
namespace Go.Proofs.Ytmccffmkfdcmmaa
/- THE CELL 'sum', in the pinned program and in every row, IS THE sha256 OF THE DUMP (.gsa) THAT YtmccffmkfdcmmaaProg.lean LOADS. Nothing in Lean hashes anything: it is a label: what it is worth is what the hold of that sum in a sandbox is worth. -/
noncomputable def Try.pinned : Pinned := { name := "ytmccffmkfdcmmaa", sum := "dc2796e2f90106c3cd7b7a0e321365ad5e2592bb7f99d9acf58e6d42852f45f9", checked := Try.checked }
namespace Rows
def none {H : Type} : Left H := { results := [], args := [] }

/-- 'laws.FnExactAreApart': WHATEVER THE INPUT: true; the input reads as it did. -/
def fnExactAreApartSpec : ChangeSpec := { name := "fnExactAreApart", fn := fun _ => fun
  | [d1, d2] => { results := [.lit (.bool true)], args := [d1, d2] }
  | _ => none }
def fnExactAreApartRow : OpenClaim := { program := "ytmccffmkfdcmmaa", sum := "dc2796e2f90106c3cd7b7a0e321365ad5e2592bb7f99d9acf58e6d42852f45f9", func := "loop.example/g00991/laws.FnExactAreApart", spec := "fnExactAreApart", apart := false }
def FnExactAreApartSaid : Prop := fnExactAreApartRow.holds Try.pinned (OpenSpec.ofChange fnExactAreApartSpec)

/-- ITS FALSE NEIGHBOUR: 'it returns false'. Refute it at one input. -/
def fnExactAreApartWrong : ChangeSpec := { name := "fnExactAreApart", fn := fun _ => fun
  | [d1, d2] => { results := [.lit (.bool false)], args := [d1, d2] }
  | _ => none }
def FnExactAreApartWrongFalsely : Prop := fnExactAreApartRow.holds Try.pinned (OpenSpec.ofChange fnExactAreApartWrong)

/-- 'laws.FnExactSees': WHATEVER THE INPUT: true; the input reads as it did. -/
def fnExactSeesSpec : ChangeSpec := { name := "fnExactSees", fn := fun _ => fun
  | [d1, d2, d3] => { results := [.lit (.bool true)], args := [d1, d2, d3] }
  | _ => none }
def fnExactSeesRow : OpenClaim := { program := "ytmccffmkfdcmmaa", sum := "dc2796e2f90106c3cd7b7a0e321365ad5e2592bb7f99d9acf58e6d42852f45f9", func := "loop.example/g00991/laws.FnExactSees", spec := "fnExactSees", unfollowed := true, recurses := true, apart := false }
def FnExactSeesSaid : Prop := fnExactSeesRow.holds Try.pinned (OpenSpec.ofChange fnExactSeesSpec)

/-- ITS FALSE NEIGHBOUR: 'it returns false'. Refute it at one input. -/
def fnExactSeesWrong : ChangeSpec := { name := "fnExactSees", fn := fun _ => fun
  | [d1, d2, d3] => { results := [.lit (.bool false)], args := [d1, d2, d3] }
  | _ => none }
def FnExactSeesWrongFalsely : Prop := fnExactSeesRow.holds Try.pinned (OpenSpec.ofChange fnExactSeesWrong)

/-- 'laws.FnExactIsDiagonal': WHATEVER THE INPUT: true; the input reads as it did. -/
def fnExactIsDiagonalSpec : ChangeSpec := { name := "fnExactIsDiagonal", fn := fun _ => fun
  | [d1, d2, d3] => { results := [.lit (.bool true)], args := [d1, d2, d3] }
  | _ => none }
def fnExactIsDiagonalRow : OpenClaim := { program := "ytmccffmkfdcmmaa", sum := "dc2796e2f90106c3cd7b7a0e321365ad5e2592bb7f99d9acf58e6d42852f45f9", func := "loop.example/g00991/laws.FnExactIsDiagonal", spec := "fnExactIsDiagonal", unfollowed := true, recurses := true, apart := false }
def FnExactIsDiagonalSaid : Prop := fnExactIsDiagonalRow.holds Try.pinned (OpenSpec.ofChange fnExactIsDiagonalSpec)

/-- ITS FALSE NEIGHBOUR: 'it returns false'. Refute it at one input. -/
def fnExactIsDiagonalWrong : ChangeSpec := { name := "fnExactIsDiagonal", fn := fun _ => fun
  | [d1, d2, d3] => { results := [.lit (.bool false)], args := [d1, d2, d3] }
  | _ => none }
def FnExactIsDiagonalWrongFalsely : Prop := fnExactIsDiagonalRow.holds Try.pinned (OpenSpec.ofChange fnExactIsDiagonalWrong)

/-- 'laws.FnExactDiagonalsOf': WHATEVER THE INPUT: true; the input reads as it did. -/
def fnExactDiagonalsOfSpec : ChangeSpec := { name := "fnExactDiagonalsOf", fn := fun _ => fun
  | [d] => { results := [.lit (.bool true)], args := [d] }
  | _ => none }
def fnExactDiagonalsOfRow : OpenClaim := { program := "ytmccffmkfdcmmaa", sum := "dc2796e2f90106c3cd7b7a0e321365ad5e2592bb7f99d9acf58e6d42852f45f9", func := "loop.example/g00991/laws.FnExactDiagonalsOf", spec := "fnExactDiagonalsOf", unfollowed := true, recurses := true, apart := false }
def FnExactDiagonalsOfSaid : Prop := fnExactDiagonalsOfRow.holds Try.pinned (OpenSpec.ofChange fnExactDiagonalsOfSpec)

/-- ITS FALSE NEIGHBOUR: 'it returns false'. Refute it at one input. -/
def fnExactDiagonalsOfWrong : ChangeSpec := { name := "fnExactDiagonalsOf", fn := fun _ => fun
  | [d] => { results := [.lit (.bool false)], args := [d] }
  | _ => none }
def FnExactDiagonalsOfWrongFalsely : Prop := fnExactDiagonalsOfRow.holds Try.pinned (OpenSpec.ofChange fnExactDiagonalsOfWrong)

/-- 'laws.FnExactDoDiagonalsCross': WHATEVER THE INPUT: true; the input reads as it did. -/
def fnExactDoDiagonalsCrossSpec : ChangeSpec := { name := "fnExactDoDiagonalsCross", fn := fun _ => fun
  | [d1, d2, d3] => { results := [.lit (.bool true)], args := [d1, d2, d3] }
  | _ => none }
def fnExactDoDiagonalsCrossRow : OpenClaim := { program := "ytmccffmkfdcmmaa", sum := "dc2796e2f90106c3cd7b7a0e321365ad5e2592bb7f99d9acf58e6d42852f45f9", func := "loop.example/g00991/laws.FnExactDoDiagonalsCross", spec := "fnExactDoDiagonalsCross", unfollowed := true, recurses := true, apart := false }
def FnExactDoDiagonalsCrossSaid : Prop := fnExactDoDiagonalsCrossRow.holds Try.pinned (OpenSpec.ofChange fnExactDoDiagonalsCrossSpec)

/-- ITS FALSE NEIGHBOUR: 'it returns false'. Refute it at one input. -/
def fnExactDoDiagonalsCrossWrong : ChangeSpec := { name := "fnExactDoDiagonalsCross", fn := fun _ => fun
  | [d1, d2, d3] => { results := [.lit (.bool false)], args := [d1, d2, d3] }
  | _ => none }
def FnExactDoDiagonalsCrossWrongFalsely : Prop := fnExactDoDiagonalsCrossRow.holds Try.pinned (OpenSpec.ofChange fnExactDoDiagonalsCrossWrong)

/-- 'laws.FnExactCornersSeen': WHATEVER THE INPUT: true; the input reads as it did. -/
def fnExactCornersSeenSpec : ChangeSpec := { name := "fnExactCornersSeen", fn := fun _ => fun
  | [d1, d2] => { results := [.lit (.bool true)], args := [d1, d2] }
  | _ => none }
def fnExactCornersSeenRow : OpenClaim := { program := "ytmccffmkfdcmmaa", sum := "dc2796e2f90106c3cd7b7a0e321365ad5e2592bb7f99d9acf58e6d42852f45f9", func := "loop.example/g00991/laws.FnExactCornersSeen", spec := "fnExactCornersSeen", unfollowed := true, recurses := true, apart := false }
def FnExactCornersSeenSaid : Prop := fnExactCornersSeenRow.holds Try.pinned (OpenSpec.ofChange fnExactCornersSeenSpec)

/-- ITS FALSE NEIGHBOUR: 'it returns false'. Refute it at one input. -/
def fnExactCornersSeenWrong : ChangeSpec := { name := "fnExactCornersSeen", fn := fun _ => fun
  | [d1, d2] => { results := [.lit (.bool false)], args := [d1, d2] }
  | _ => none }
def FnExactCornersSeenWrongFalsely : Prop := fnExactCornersSeenRow.holds Try.pinned (OpenSpec.ofChange fnExactCornersSeenWrong)

/-- 'laws.FnExactSeenBy': WHATEVER THE INPUT: true; the input reads as it did. -/
def fnExactSeenBySpec : ChangeSpec := { name := "fnExactSeenBy", fn := fun _ => fun
  | [d1, d2] => { results := [.lit (.bool true)], args := [d1, d2] }
  | _ => none }
def fnExactSeenByRow : OpenClaim := { program := "ytmccffmkfdcmmaa", sum := "dc2796e2f90106c3cd7b7a0e321365ad5e2592bb7f99d9acf58e6d42852f45f9", func := "loop.example/g00991/laws.FnExactSeenBy", spec := "fnExactSeenBy", unfollowed := true, recurses := true, apart := false }
def FnExactSeenBySaid : Prop := fnExactSeenByRow.holds Try.pinned (OpenSpec.ofChange fnExactSeenBySpec)

/-- ITS FALSE NEIGHBOUR: 'it returns false'. Refute it at one input. -/
def fnExactSeenByWrong : ChangeSpec := { name := "fnExactSeenBy", fn := fun _ => fun
  | [d1, d2] => { results := [.lit (.bool false)], args := [d1, d2] }
  | _ => none }
def FnExactSeenByWrongFalsely : Prop := fnExactSeenByRow.holds Try.pinned (OpenSpec.ofChange fnExactSeenByWrong)

/-- 'laws.FnExactCutRoom': WHATEVER THE INPUT: true; the input reads as it did. -/
def fnExactCutRoomSpec : ChangeSpec := { name := "fnExactCutRoom", fn := fun _ => fun
  | [d1, d2, d3] => { results := [.lit (.bool true)], args := [d1, d2, d3] }
  | _ => none }
def fnExactCutRoomRow : OpenClaim := { program := "ytmccffmkfdcmmaa", sum := "dc2796e2f90106c3cd7b7a0e321365ad5e2592bb7f99d9acf58e6d42852f45f9", func := "loop.example/g00991/laws.FnExactCutRoom", spec := "fnExactCutRoom", unfollowed := true, recurses := true, apart := false }
def FnExactCutRoomSaid : Prop := fnExactCutRoomRow.holds Try.pinned (OpenSpec.ofChange fnExactCutRoomSpec)

/-- ITS FALSE NEIGHBOUR: 'it returns false'. Refute it at one input. -/
def fnExactCutRoomWrong : ChangeSpec := { name := "fnExactCutRoom", fn := fun _ => fun
  | [d1, d2, d3] => { results := [.lit (.bool false)], args := [d1, d2, d3] }
  | _ => none }
def FnExactCutRoomWrongFalsely : Prop := fnExactCutRoomRow.holds Try.pinned (OpenSpec.ofChange fnExactCutRoomWrong)

/- THE SECOND FORM. 'bulk': how many values and letters a reading holds, each counted each time it is reached (what is shared counts as often as it is met; a slice's spare places count too). A statement '..UptoSaid' is the law's where the arguments, and the package variables that the reading takes, are together of bulk at most 1048576: NARROWER than '..Said'. Prove '..Said' where nothing that the law and all that it calls make is longer than what came in: it says more and counts as full. Else prove '..UptoSaid'. A law counts once. -/
mutual
def uptoBulk {H : Type} : DataW H → Nat
  | .lit (.string bytes) => bytes.length + 1
  | .lit _ => 1
  | .nil => 1
  | .ptr d => uptoBulk d + 1
  | .slice elems spare => uptoBulkAll elems + uptoBulkAll spare + 1
  | .agg parts => uptoBulkAll parts + 1
  | .iface _ d => uptoBulk d + 1
  | .map entries => uptoBulkEntries entries + 1
  | .held _ => 1
def uptoBulkAll {H : Type} : List (DataW H) → Nat
  | [] => 0
  | d :: r => uptoBulk d + uptoBulkAll r
def uptoBulkEntries {H : Type} : List (Lit × DataW H) → Nat
  | [] => 0
  | x :: r => uptoBulkEntry x + uptoBulkEntries r
def uptoBulkEntry {H : Type} : Lit × DataW H → Nat
  | (.string bytes, d) => bytes.length + uptoBulk d + 1
  | (_, d) => uptoBulk d + 1
 end
def uptoSmall : (H : Type) → List (DataW H) → Bool := fun _ ds => decide (uptoBulkAll ds ≤ 1048576)
def OpenSpec.upto (s : _root_.Go.ChangeSpec) : _root_.Go.OpenSpec := { _root_.Go.OpenSpec.ofChange s with cond := some uptoSmall }

/-- 'laws.FnExactAreApart', WHERE WHAT IT READS IS OF BULK AT MOST 1048576: true; the input reads as it did. -/
def fnExactAreApartUptoRow : OpenClaim := { program := "ytmccffmkfdcmmaa", sum := "dc2796e2f90106c3cd7b7a0e321365ad5e2592bb7f99d9acf58e6d42852f45f9", func := "loop.example/g00991/laws.FnExactAreApart", spec := "fnExactAreApart", apart := false, narrowed := true }
def FnExactAreApartUptoSaid : Prop := fnExactAreApartUptoRow.holds Try.pinned (OpenSpec.upto fnExactAreApartSpec)

/-- 'laws.FnExactSees', WHERE WHAT IT READS IS OF BULK AT MOST 1048576: true; the input reads as it did. -/
def fnExactSeesUptoRow : OpenClaim := { program := "ytmccffmkfdcmmaa", sum := "dc2796e2f90106c3cd7b7a0e321365ad5e2592bb7f99d9acf58e6d42852f45f9", func := "loop.example/g00991/laws.FnExactSees", spec := "fnExactSees", unfollowed := true, recurses := true, apart := false, narrowed := true }
def FnExactSeesUptoSaid : Prop := fnExactSeesUptoRow.holds Try.pinned (OpenSpec.upto fnExactSeesSpec)

/-- 'laws.FnExactIsDiagonal', WHERE WHAT IT READS IS OF BULK AT MOST 1048576: true; the input reads as it did. -/
def fnExactIsDiagonalUptoRow : OpenClaim := { program := "ytmccffmkfdcmmaa", sum := "dc2796e2f90106c3cd7b7a0e321365ad5e2592bb7f99d9acf58e6d42852f45f9", func := "loop.example/g00991/laws.FnExactIsDiagonal", spec := "fnExactIsDiagonal", unfollowed := true, recurses := true, apart := false, narrowed := true }
def FnExactIsDiagonalUptoSaid : Prop := fnExactIsDiagonalUptoRow.holds Try.pinned (OpenSpec.upto fnExactIsDiagonalSpec)

/-- 'laws.FnExactDiagonalsOf', WHERE WHAT IT READS IS OF BULK AT MOST 1048576: true; the input reads as it did. -/
def fnExactDiagonalsOfUptoRow : OpenClaim := { program := "ytmccffmkfdcmmaa", sum := "dc2796e2f90106c3cd7b7a0e321365ad5e2592bb7f99d9acf58e6d42852f45f9", func := "loop.example/g00991/laws.FnExactDiagonalsOf", spec := "fnExactDiagonalsOf", unfollowed := true, recurses := true, apart := false, narrowed := true }
def FnExactDiagonalsOfUptoSaid : Prop := fnExactDiagonalsOfUptoRow.holds Try.pinned (OpenSpec.upto fnExactDiagonalsOfSpec)

/-- 'laws.FnExactDoDiagonalsCross', WHERE WHAT IT READS IS OF BULK AT MOST 1048576: true; the input reads as it did. -/
def fnExactDoDiagonalsCrossUptoRow : OpenClaim := { program := "ytmccffmkfdcmmaa", sum := "dc2796e2f90106c3cd7b7a0e321365ad5e2592bb7f99d9acf58e6d42852f45f9", func := "loop.example/g00991/laws.FnExactDoDiagonalsCross", spec := "fnExactDoDiagonalsCross", unfollowed := true, recurses := true, apart := false, narrowed := true }
def FnExactDoDiagonalsCrossUptoSaid : Prop := fnExactDoDiagonalsCrossUptoRow.holds Try.pinned (OpenSpec.upto fnExactDoDiagonalsCrossSpec)

/-- 'laws.FnExactCornersSeen', WHERE WHAT IT READS IS OF BULK AT MOST 1048576: true; the input reads as it did. -/
def fnExactCornersSeenUptoRow : OpenClaim := { program := "ytmccffmkfdcmmaa", sum := "dc2796e2f90106c3cd7b7a0e321365ad5e2592bb7f99d9acf58e6d42852f45f9", func := "loop.example/g00991/laws.FnExactCornersSeen", spec := "fnExactCornersSeen", unfollowed := true, recurses := true, apart := false, narrowed := true }
def FnExactCornersSeenUptoSaid : Prop := fnExactCornersSeenUptoRow.holds Try.pinned (OpenSpec.upto fnExactCornersSeenSpec)

/-- 'laws.FnExactSeenBy', WHERE WHAT IT READS IS OF BULK AT MOST 1048576: true; the input reads as it did. -/
def fnExactSeenByUptoRow : OpenClaim := { program := "ytmccffmkfdcmmaa", sum := "dc2796e2f90106c3cd7b7a0e321365ad5e2592bb7f99d9acf58e6d42852f45f9", func := "loop.example/g00991/laws.FnExactSeenBy", spec := "fnExactSeenBy", unfollowed := true, recurses := true, apart := false, narrowed := true }
def FnExactSeenByUptoSaid : Prop := fnExactSeenByUptoRow.holds Try.pinned (OpenSpec.upto fnExactSeenBySpec)

/-- 'laws.FnExactCutRoom', WHERE WHAT IT READS IS OF BULK AT MOST 1048576: true; the input reads as it did. -/
def fnExactCutRoomUptoRow : OpenClaim := { program := "ytmccffmkfdcmmaa", sum := "dc2796e2f90106c3cd7b7a0e321365ad5e2592bb7f99d9acf58e6d42852f45f9", func := "loop.example/g00991/laws.FnExactCutRoom", spec := "fnExactCutRoom", unfollowed := true, recurses := true, apart := false, narrowed := true }
def FnExactCutRoomUptoSaid : Prop := fnExactCutRoomUptoRow.holds Try.pinned (OpenSpec.upto fnExactCutRoomSpec)

end Rows
end Go.Proofs.Ytmccffmkfdcmmaa
