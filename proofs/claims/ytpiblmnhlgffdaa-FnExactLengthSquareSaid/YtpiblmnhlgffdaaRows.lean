/-
  No cell of these rows narrows 'for every input' (looked for: loops, veiled, ifaces, maps, wideKeys, modest, calm, conditions, laid).
  DERIVED. THE GIVEN ROWS OF THIS SEAT. 12 by the template 'for every input the law returns true; each argument reads behind the call as it read before'; 0 by the template 'total and deterministic' (their statements: YtpiblmnhlgffdaaTotals.lean).
  GIVEN WITH THE SEED: the statements are not yours to turn. If you find one false, say at which input.
  Laid BY PROGRAM, IN A SANDBOX (cutbox-rows.mjs): the forced cells as the released guide's own fill.sh prints them over the translation 12df745506d7f15b… (all of the seat's roots in one cut). By AI agents, Wed Nov 11 2026. No macro, syntax, notation, axiom, sorry.
-/
import Derived.Test.YtpiblmnhlgffdaaChecked
import GoSem.Claim
import GoSem.ClaimJoined
import GoSem.ClaimMapViews
import Derived.JoinedTies
import Derived.KernelRfl
namespace Go.Proofs.Ytpiblmnhlgffdaa
/- THE CELL 'sum', in the pinned program and in every row, IS THE sha256 OF THE DUMP (.gsa) THAT YtpiblmnhlgffdaaProg.lean LOADS. Nothing in Lean hashes anything: it is a label: what it is worth is what the hold of that sum in a sandbox is worth. -/
noncomputable def Try.pinned : Pinned := { name := "ytpiblmnhlgffdaa", sum := "12df745506d7f15b6c29a6e9df979cea4dfe0348589622f8c7807792261118b4", checked := Try.checked }
namespace Rows
def none {H : Type} : Left H := { results := [], args := [] }

/-- 'laws.FnExactConstants': WHATEVER THE INPUT: true; the input reads as it did. -/
def fnExactConstantsSpec : ChangeSpec := { name := "fnExactConstants", fn := fun _ => fun
  | [] => { results := [.lit (.bool true)], args := [] }
  | _ => none }
def fnExactConstantsRow : OpenClaim := { program := "ytpiblmnhlgffdaa", sum := "12df745506d7f15b6c29a6e9df979cea4dfe0348589622f8c7807792261118b4", func := "loop.example/g00991/laws.FnExactConstants", spec := "fnExactConstants", apart := false }
def FnExactConstantsSaid : Prop := fnExactConstantsRow.holds Try.pinned (OpenSpec.ofChange fnExactConstantsSpec)

/-- ITS FALSE NEIGHBOUR: 'it returns false'. Refute it at one input. -/
def fnExactConstantsWrong : ChangeSpec := { name := "fnExactConstants", fn := fun _ => fun
  | [] => { results := [.lit (.bool false)], args := [] }
  | _ => none }
def FnExactConstantsWrongFalsely : Prop := fnExactConstantsRow.holds Try.pinned (OpenSpec.ofChange fnExactConstantsWrong)

/-- 'laws.FnExactPointOk': WHATEVER THE INPUT: true; the input reads as it did. -/
def fnExactPointOkSpec : ChangeSpec := { name := "fnExactPointOk", fn := fun _ => fun
  | [d] => { results := [.lit (.bool true)], args := [d] }
  | _ => none }
def fnExactPointOkRow : OpenClaim := { program := "ytpiblmnhlgffdaa", sum := "12df745506d7f15b6c29a6e9df979cea4dfe0348589622f8c7807792261118b4", func := "loop.example/g00991/laws.FnExactPointOk", spec := "fnExactPointOk", apart := false }
def FnExactPointOkSaid : Prop := fnExactPointOkRow.holds Try.pinned (OpenSpec.ofChange fnExactPointOkSpec)

/-- ITS FALSE NEIGHBOUR: 'it returns false'. Refute it at one input. -/
def fnExactPointOkWrong : ChangeSpec := { name := "fnExactPointOk", fn := fun _ => fun
  | [d] => { results := [.lit (.bool false)], args := [d] }
  | _ => none }
def FnExactPointOkWrongFalsely : Prop := fnExactPointOkRow.holds Try.pinned (OpenSpec.ofChange fnExactPointOkWrong)

/-- 'laws.FnExactClamp': WHATEVER THE INPUT: true; the input reads as it did. -/
def fnExactClampSpec : ChangeSpec := { name := "fnExactClamp", fn := fun _ => fun
  | [d1, d2, d3] => { results := [.lit (.bool true)], args := [d1, d2, d3] }
  | _ => none }
def fnExactClampRow : OpenClaim := { program := "ytpiblmnhlgffdaa", sum := "12df745506d7f15b6c29a6e9df979cea4dfe0348589622f8c7807792261118b4", func := "loop.example/g00991/laws.FnExactClamp", spec := "fnExactClamp", apart := false }
def FnExactClampSaid : Prop := fnExactClampRow.holds Try.pinned (OpenSpec.ofChange fnExactClampSpec)

/-- ITS FALSE NEIGHBOUR: 'it returns false'. Refute it at one input. -/
def fnExactClampWrong : ChangeSpec := { name := "fnExactClamp", fn := fun _ => fun
  | [d1, d2, d3] => { results := [.lit (.bool false)], args := [d1, d2, d3] }
  | _ => none }
def FnExactClampWrongFalsely : Prop := fnExactClampRow.holds Try.pinned (OpenSpec.ofChange fnExactClampWrong)

/-- 'laws.FnExactEncodeHex': WHATEVER THE INPUT: true; the input reads as it did. -/
def fnExactEncodeHexSpec : ChangeSpec := { name := "fnExactEncodeHex", fn := fun _ => fun
  | [d] => { results := [.lit (.bool true)], args := [d] }
  | _ => none }
def fnExactEncodeHexRow : OpenClaim := { program := "ytpiblmnhlgffdaa", sum := "12df745506d7f15b6c29a6e9df979cea4dfe0348589622f8c7807792261118b4", func := "loop.example/g00991/laws.FnExactEncodeHex", spec := "fnExactEncodeHex", apart := false }
def FnExactEncodeHexSaid : Prop := fnExactEncodeHexRow.holds Try.pinned (OpenSpec.ofChange fnExactEncodeHexSpec)

/-- ITS FALSE NEIGHBOUR: 'it returns false'. Refute it at one input. -/
def fnExactEncodeHexWrong : ChangeSpec := { name := "fnExactEncodeHex", fn := fun _ => fun
  | [d] => { results := [.lit (.bool false)], args := [d] }
  | _ => none }
def FnExactEncodeHexWrongFalsely : Prop := fnExactEncodeHexRow.holds Try.pinned (OpenSpec.ofChange fnExactEncodeHexWrong)

/-- 'laws.FnExactWallOk': WHATEVER THE INPUT: true; the input reads as it did. -/
def fnExactWallOkSpec : ChangeSpec := { name := "fnExactWallOk", fn := fun _ => fun
  | [d] => { results := [.lit (.bool true)], args := [d] }
  | _ => none }
def fnExactWallOkRow : OpenClaim := { program := "ytpiblmnhlgffdaa", sum := "12df745506d7f15b6c29a6e9df979cea4dfe0348589622f8c7807792261118b4", func := "loop.example/g00991/laws.FnExactWallOk", spec := "fnExactWallOk", apart := false }
def FnExactWallOkSaid : Prop := fnExactWallOkRow.holds Try.pinned (OpenSpec.ofChange fnExactWallOkSpec)

/-- ITS FALSE NEIGHBOUR: 'it returns false'. Refute it at one input. -/
def fnExactWallOkWrong : ChangeSpec := { name := "fnExactWallOk", fn := fun _ => fun
  | [d] => { results := [.lit (.bool false)], args := [d] }
  | _ => none }
def FnExactWallOkWrongFalsely : Prop := fnExactWallOkRow.holds Try.pinned (OpenSpec.ofChange fnExactWallOkWrong)

/-- 'laws.FnExactSquareOf': WHATEVER THE INPUT: true; the input reads as it did. -/
def fnExactSquareOfSpec : ChangeSpec := { name := "fnExactSquareOf", fn := fun _ => fun
  | [d1, d2] => { results := [.lit (.bool true)], args := [d1, d2] }
  | _ => none }
def fnExactSquareOfRow : OpenClaim := { program := "ytpiblmnhlgffdaa", sum := "12df745506d7f15b6c29a6e9df979cea4dfe0348589622f8c7807792261118b4", func := "loop.example/g00991/laws.FnExactSquareOf", spec := "fnExactSquareOf", apart := false }
def FnExactSquareOfSaid : Prop := fnExactSquareOfRow.holds Try.pinned (OpenSpec.ofChange fnExactSquareOfSpec)

/-- ITS FALSE NEIGHBOUR: 'it returns false'. Refute it at one input. -/
def fnExactSquareOfWrong : ChangeSpec := { name := "fnExactSquareOf", fn := fun _ => fun
  | [d1, d2] => { results := [.lit (.bool false)], args := [d1, d2] }
  | _ => none }
def FnExactSquareOfWrongFalsely : Prop := fnExactSquareOfRow.holds Try.pinned (OpenSpec.ofChange fnExactSquareOfWrong)

/-- 'laws.FnExactIsNearer': WHATEVER THE INPUT: true; the input reads as it did. -/
def fnExactIsNearerSpec : ChangeSpec := { name := "fnExactIsNearer", fn := fun _ => fun
  | [d1, d2, d3] => { results := [.lit (.bool true)], args := [d1, d2, d3] }
  | _ => none }
def fnExactIsNearerRow : OpenClaim := { program := "ytpiblmnhlgffdaa", sum := "12df745506d7f15b6c29a6e9df979cea4dfe0348589622f8c7807792261118b4", func := "loop.example/g00991/laws.FnExactIsNearer", spec := "fnExactIsNearer", apart := false }
def FnExactIsNearerSaid : Prop := fnExactIsNearerRow.holds Try.pinned (OpenSpec.ofChange fnExactIsNearerSpec)

/-- ITS FALSE NEIGHBOUR: 'it returns false'. Refute it at one input. -/
def fnExactIsNearerWrong : ChangeSpec := { name := "fnExactIsNearer", fn := fun _ => fun
  | [d1, d2, d3] => { results := [.lit (.bool false)], args := [d1, d2, d3] }
  | _ => none }
def FnExactIsNearerWrongFalsely : Prop := fnExactIsNearerRow.holds Try.pinned (OpenSpec.ofChange fnExactIsNearerWrong)

/-- 'laws.FnExactSeenBy': WHATEVER THE INPUT: true; the input reads as it did. -/
def fnExactSeenBySpec : ChangeSpec := { name := "fnExactSeenBy", fn := fun _ => fun
  | [d1, d2] => { results := [.lit (.bool true)], args := [d1, d2] }
  | _ => none }
def fnExactSeenByRow : OpenClaim := { program := "ytpiblmnhlgffdaa", sum := "12df745506d7f15b6c29a6e9df979cea4dfe0348589622f8c7807792261118b4", func := "loop.example/g00991/laws.FnExactSeenBy", spec := "fnExactSeenBy", unfollowed := true, recurses := true, apart := false }
def FnExactSeenBySaid : Prop := fnExactSeenByRow.holds Try.pinned (OpenSpec.ofChange fnExactSeenBySpec)

/-- ITS FALSE NEIGHBOUR: 'it returns false'. Refute it at one input. -/
def fnExactSeenByWrong : ChangeSpec := { name := "fnExactSeenBy", fn := fun _ => fun
  | [d1, d2] => { results := [.lit (.bool false)], args := [d1, d2] }
  | _ => none }
def FnExactSeenByWrongFalsely : Prop := fnExactSeenByRow.holds Try.pinned (OpenSpec.ofChange fnExactSeenByWrong)

/-- 'laws.FnExactTurnOf': WHATEVER THE INPUT: true; the input reads as it did. -/
def fnExactTurnOfSpec : ChangeSpec := { name := "fnExactTurnOf", fn := fun _ => fun
  | [d1, d2, d3] => { results := [.lit (.bool true)], args := [d1, d2, d3] }
  | _ => none }
def fnExactTurnOfRow : OpenClaim := { program := "ytpiblmnhlgffdaa", sum := "12df745506d7f15b6c29a6e9df979cea4dfe0348589622f8c7807792261118b4", func := "loop.example/g00991/laws.FnExactTurnOf", spec := "fnExactTurnOf", apart := false }
def FnExactTurnOfSaid : Prop := fnExactTurnOfRow.holds Try.pinned (OpenSpec.ofChange fnExactTurnOfSpec)

/-- ITS FALSE NEIGHBOUR: 'it returns false'. Refute it at one input. -/
def fnExactTurnOfWrong : ChangeSpec := { name := "fnExactTurnOf", fn := fun _ => fun
  | [d1, d2, d3] => { results := [.lit (.bool false)], args := [d1, d2, d3] }
  | _ => none }
def FnExactTurnOfWrongFalsely : Prop := fnExactTurnOfRow.holds Try.pinned (OpenSpec.ofChange fnExactTurnOfWrong)

/-- 'laws.FnExactIsBetween': WHATEVER THE INPUT: true; the input reads as it did. -/
def fnExactIsBetweenSpec : ChangeSpec := { name := "fnExactIsBetween", fn := fun _ => fun
  | [d1, d2, d3] => { results := [.lit (.bool true)], args := [d1, d2, d3] }
  | _ => none }
def fnExactIsBetweenRow : OpenClaim := { program := "ytpiblmnhlgffdaa", sum := "12df745506d7f15b6c29a6e9df979cea4dfe0348589622f8c7807792261118b4", func := "loop.example/g00991/laws.FnExactIsBetween", spec := "fnExactIsBetween", apart := false }
def FnExactIsBetweenSaid : Prop := fnExactIsBetweenRow.holds Try.pinned (OpenSpec.ofChange fnExactIsBetweenSpec)

/-- ITS FALSE NEIGHBOUR: 'it returns false'. Refute it at one input. -/
def fnExactIsBetweenWrong : ChangeSpec := { name := "fnExactIsBetween", fn := fun _ => fun
  | [d1, d2, d3] => { results := [.lit (.bool false)], args := [d1, d2, d3] }
  | _ => none }
def FnExactIsBetweenWrongFalsely : Prop := fnExactIsBetweenRow.holds Try.pinned (OpenSpec.ofChange fnExactIsBetweenWrong)

/-- 'laws.FnExactDecodeHex': WHATEVER THE INPUT: true; the input reads as it did. -/
def fnExactDecodeHexSpec : ChangeSpec := { name := "fnExactDecodeHex", fn := fun _ => fun
  | [d] => { results := [.lit (.bool true)], args := [d] }
  | _ => none }
def fnExactDecodeHexRow : OpenClaim := { program := "ytpiblmnhlgffdaa", sum := "12df745506d7f15b6c29a6e9df979cea4dfe0348589622f8c7807792261118b4", func := "loop.example/g00991/laws.FnExactDecodeHex", spec := "fnExactDecodeHex", apart := false }
def FnExactDecodeHexSaid : Prop := fnExactDecodeHexRow.holds Try.pinned (OpenSpec.ofChange fnExactDecodeHexSpec)

/-- ITS FALSE NEIGHBOUR: 'it returns false'. Refute it at one input. -/
def fnExactDecodeHexWrong : ChangeSpec := { name := "fnExactDecodeHex", fn := fun _ => fun
  | [d] => { results := [.lit (.bool false)], args := [d] }
  | _ => none }
def FnExactDecodeHexWrongFalsely : Prop := fnExactDecodeHexRow.holds Try.pinned (OpenSpec.ofChange fnExactDecodeHexWrong)

/-- 'laws.FnExactLengthSquare': WHATEVER THE INPUT: true; the input reads as it did. -/
def fnExactLengthSquareSpec : ChangeSpec := { name := "fnExactLengthSquare", fn := fun _ => fun
  | [d] => { results := [.lit (.bool true)], args := [d] }
  | _ => none }
def fnExactLengthSquareRow : OpenClaim := { program := "ytpiblmnhlgffdaa", sum := "12df745506d7f15b6c29a6e9df979cea4dfe0348589622f8c7807792261118b4", func := "loop.example/g00991/laws.FnExactLengthSquare", spec := "fnExactLengthSquare", apart := false }
def FnExactLengthSquareSaid : Prop := fnExactLengthSquareRow.holds Try.pinned (OpenSpec.ofChange fnExactLengthSquareSpec)

/-- ITS FALSE NEIGHBOUR: 'it returns false'. Refute it at one input. -/
def fnExactLengthSquareWrong : ChangeSpec := { name := "fnExactLengthSquare", fn := fun _ => fun
  | [d] => { results := [.lit (.bool false)], args := [d] }
  | _ => none }
def FnExactLengthSquareWrongFalsely : Prop := fnExactLengthSquareRow.holds Try.pinned (OpenSpec.ofChange fnExactLengthSquareWrong)

/- THE SECOND FORM. 'bulk': how many values and letters a reading holds, each counted each time it is reached (what is shared counts as often as it is met; a slice's spare places count too). A statement '..UptoSaid' is the law's where the arguments, and the package variables that the reading takes, are together of bulk at most 1048576: NARROWER than '..Said'. Prove '..Said' where nothing that the law and all that it calls make is longer than what came in: it says more and counts as full. Else prove '..UptoSaid'. A law counts once. -/
mutual
def uptoBulk {H : Type} : DataW H → Nat
  | .lit (.string bytes) => bytes.length + 1
  | .lit _ => 1
  | .nil => 1
  | .ptr d => uptoBulk d + 1
  | .slice elems spare => uptoBulkAll elems + uptoBulkAll spare + 1
  | .agg parts => uptoBulkAll parts + 1
  | .iface _ d => uptoBulk d + 1
  | .map entries => uptoBulkEntries entries + 1
  | .held _ => 1
def uptoBulkAll {H : Type} : List (DataW H) → Nat
  | [] => 0
  | d :: r => uptoBulk d + uptoBulkAll r
def uptoBulkEntries {H : Type} : List (Lit × DataW H) → Nat
  | [] => 0
  | x :: r => uptoBulkEntry x + uptoBulkEntries r
def uptoBulkEntry {H : Type} : Lit × DataW H → Nat
  | (.string bytes, d) => bytes.length + uptoBulk d + 1
  | (_, d) => uptoBulk d + 1
 end
def uptoSmall : (H : Type) → List (DataW H) → Bool := fun _ ds => decide (uptoBulkAll ds ≤ 1048576)
def OpenSpec.upto (s : _root_.Go.ChangeSpec) : _root_.Go.OpenSpec := { _root_.Go.OpenSpec.ofChange s with cond := some uptoSmall }

/-- 'laws.FnExactConstants', WHERE WHAT IT READS IS OF BULK AT MOST 1048576: true; the input reads as it did. -/
def fnExactConstantsUptoRow : OpenClaim := { program := "ytpiblmnhlgffdaa", sum := "12df745506d7f15b6c29a6e9df979cea4dfe0348589622f8c7807792261118b4", func := "loop.example/g00991/laws.FnExactConstants", spec := "fnExactConstants", apart := false, narrowed := true }
def FnExactConstantsUptoSaid : Prop := fnExactConstantsUptoRow.holds Try.pinned (OpenSpec.upto fnExactConstantsSpec)

/-- 'laws.FnExactPointOk', WHERE WHAT IT READS IS OF BULK AT MOST 1048576: true; the input reads as it did. -/
def fnExactPointOkUptoRow : OpenClaim := { program := "ytpiblmnhlgffdaa", sum := "12df745506d7f15b6c29a6e9df979cea4dfe0348589622f8c7807792261118b4", func := "loop.example/g00991/laws.FnExactPointOk", spec := "fnExactPointOk", apart := false, narrowed := true }
def FnExactPointOkUptoSaid : Prop := fnExactPointOkUptoRow.holds Try.pinned (OpenSpec.upto fnExactPointOkSpec)

/-- 'laws.FnExactClamp', WHERE WHAT IT READS IS OF BULK AT MOST 1048576: true; the input reads as it did. -/
def fnExactClampUptoRow : OpenClaim := { program := "ytpiblmnhlgffdaa", sum := "12df745506d7f15b6c29a6e9df979cea4dfe0348589622f8c7807792261118b4", func := "loop.example/g00991/laws.FnExactClamp", spec := "fnExactClamp", apart := false, narrowed := true }
def FnExactClampUptoSaid : Prop := fnExactClampUptoRow.holds Try.pinned (OpenSpec.upto fnExactClampSpec)

/-- 'laws.FnExactEncodeHex', WHERE WHAT IT READS IS OF BULK AT MOST 1048576: true; the input reads as it did. -/
def fnExactEncodeHexUptoRow : OpenClaim := { program := "ytpiblmnhlgffdaa", sum := "12df745506d7f15b6c29a6e9df979cea4dfe0348589622f8c7807792261118b4", func := "loop.example/g00991/laws.FnExactEncodeHex", spec := "fnExactEncodeHex", apart := false, narrowed := true }
def FnExactEncodeHexUptoSaid : Prop := fnExactEncodeHexUptoRow.holds Try.pinned (OpenSpec.upto fnExactEncodeHexSpec)

/-- 'laws.FnExactWallOk', WHERE WHAT IT READS IS OF BULK AT MOST 1048576: true; the input reads as it did. -/
def fnExactWallOkUptoRow : OpenClaim := { program := "ytpiblmnhlgffdaa", sum := "12df745506d7f15b6c29a6e9df979cea4dfe0348589622f8c7807792261118b4", func := "loop.example/g00991/laws.FnExactWallOk", spec := "fnExactWallOk", apart := false, narrowed := true }
def FnExactWallOkUptoSaid : Prop := fnExactWallOkUptoRow.holds Try.pinned (OpenSpec.upto fnExactWallOkSpec)

/-- 'laws.FnExactSquareOf', WHERE WHAT IT READS IS OF BULK AT MOST 1048576: true; the input reads as it did. -/
def fnExactSquareOfUptoRow : OpenClaim := { program := "ytpiblmnhlgffdaa", sum := "12df745506d7f15b6c29a6e9df979cea4dfe0348589622f8c7807792261118b4", func := "loop.example/g00991/laws.FnExactSquareOf", spec := "fnExactSquareOf", apart := false, narrowed := true }
def FnExactSquareOfUptoSaid : Prop := fnExactSquareOfUptoRow.holds Try.pinned (OpenSpec.upto fnExactSquareOfSpec)

/-- 'laws.FnExactIsNearer', WHERE WHAT IT READS IS OF BULK AT MOST 1048576: true; the input reads as it did. -/
def fnExactIsNearerUptoRow : OpenClaim := { program := "ytpiblmnhlgffdaa", sum := "12df745506d7f15b6c29a6e9df979cea4dfe0348589622f8c7807792261118b4", func := "loop.example/g00991/laws.FnExactIsNearer", spec := "fnExactIsNearer", apart := false, narrowed := true }
def FnExactIsNearerUptoSaid : Prop := fnExactIsNearerUptoRow.holds Try.pinned (OpenSpec.upto fnExactIsNearerSpec)

/-- 'laws.FnExactSeenBy', WHERE WHAT IT READS IS OF BULK AT MOST 1048576: true; the input reads as it did. -/
def fnExactSeenByUptoRow : OpenClaim := { program := "ytpiblmnhlgffdaa", sum := "12df745506d7f15b6c29a6e9df979cea4dfe0348589622f8c7807792261118b4", func := "loop.example/g00991/laws.FnExactSeenBy", spec := "fnExactSeenBy", unfollowed := true, recurses := true, apart := false, narrowed := true }
def FnExactSeenByUptoSaid : Prop := fnExactSeenByUptoRow.holds Try.pinned (OpenSpec.upto fnExactSeenBySpec)

/-- 'laws.FnExactTurnOf', WHERE WHAT IT READS IS OF BULK AT MOST 1048576: true; the input reads as it did. -/
def fnExactTurnOfUptoRow : OpenClaim := { program := "ytpiblmnhlgffdaa", sum := "12df745506d7f15b6c29a6e9df979cea4dfe0348589622f8c7807792261118b4", func := "loop.example/g00991/laws.FnExactTurnOf", spec := "fnExactTurnOf", apart := false, narrowed := true }
def FnExactTurnOfUptoSaid : Prop := fnExactTurnOfUptoRow.holds Try.pinned (OpenSpec.upto fnExactTurnOfSpec)

/-- 'laws.FnExactIsBetween', WHERE WHAT IT READS IS OF BULK AT MOST 1048576: true; the input reads as it did. -/
def fnExactIsBetweenUptoRow : OpenClaim := { program := "ytpiblmnhlgffdaa", sum := "12df745506d7f15b6c29a6e9df979cea4dfe0348589622f8c7807792261118b4", func := "loop.example/g00991/laws.FnExactIsBetween", spec := "fnExactIsBetween", apart := false, narrowed := true }
def FnExactIsBetweenUptoSaid : Prop := fnExactIsBetweenUptoRow.holds Try.pinned (OpenSpec.upto fnExactIsBetweenSpec)

/-- 'laws.FnExactDecodeHex', WHERE WHAT IT READS IS OF BULK AT MOST 1048576: true; the input reads as it did. -/
def fnExactDecodeHexUptoRow : OpenClaim := { program := "ytpiblmnhlgffdaa", sum := "12df745506d7f15b6c29a6e9df979cea4dfe0348589622f8c7807792261118b4", func := "loop.example/g00991/laws.FnExactDecodeHex", spec := "fnExactDecodeHex", apart := false, narrowed := true }
def FnExactDecodeHexUptoSaid : Prop := fnExactDecodeHexUptoRow.holds Try.pinned (OpenSpec.upto fnExactDecodeHexSpec)

/-- 'laws.FnExactLengthSquare', WHERE WHAT IT READS IS OF BULK AT MOST 1048576: true; the input reads as it did. -/
def fnExactLengthSquareUptoRow : OpenClaim := { program := "ytpiblmnhlgffdaa", sum := "12df745506d7f15b6c29a6e9df979cea4dfe0348589622f8c7807792261118b4", func := "loop.example/g00991/laws.FnExactLengthSquare", spec := "fnExactLengthSquare", apart := false, narrowed := true }
def FnExactLengthSquareUptoSaid : Prop := fnExactLengthSquareUptoRow.holds Try.pinned (OpenSpec.upto fnExactLengthSquareSpec)

end Rows
end Go.Proofs.Ytpiblmnhlgffdaa
