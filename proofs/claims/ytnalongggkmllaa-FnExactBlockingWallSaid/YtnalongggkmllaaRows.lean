/-
  No cell of these rows narrows 'for every input' (looked for: loops, veiled, ifaces, maps, wideKeys, modest, calm, conditions, laid).
  DERIVED. THE GIVEN ROWS OF THIS SEAT. 6 by the template 'for every input the law returns true; each argument reads behind the call as it read before'; 0 by the template 'total and deterministic' (their statements: YtnalongggkmllaaTotals.lean).
  GIVEN WITH THE SEED: the statements are not yours to turn. If you find one false, say at which input.
  Laid BY PROGRAM, IN A SANDBOX (cutbox-rows.mjs): the forced cells as the released guide's own fill.sh prints them over the translation 62becd8841e3c520… (all of the seat's roots in one cut). By AI agents, Wed Nov 11 2026. No macro, syntax, notation, axiom, sorry.
-/
import Derived.Test.YtnalongggkmllaaChecked
import GoSem.Claim
import GoSem.ClaimJoined
import GoSem.ClaimMapViews
import Derived.JoinedTies
import Derived.KernelRfl
namespace Go.Proofs.Ytnalongggkmllaa
/- THE CELL 'sum', in the pinned program and in every row, IS THE sha256 OF THE DUMP (.gsa) THAT YtnalongggkmllaaProg.lean LOADS. Nothing in Lean hashes anything: it is a label: what it is worth is what the hold of that sum in a sandbox is worth. -/
noncomputable def Try.pinned : Pinned := { name := "ytnalongggkmllaa", sum := "62becd8841e3c5201305c750a1e8eaa14c4fff6046407de2e390f47e3436f26a", checked := Try.checked }
namespace Rows
def none {H : Type} : Left H := { results := [], args := [] }

/-- 'laws.FnExactStartAt': WHATEVER THE INPUT: true; the input reads as it did. -/
def fnExactStartAtSpec : ChangeSpec := { name := "fnExactStartAt", fn := fun _ => fun
  | [d1, d2] => { results := [.lit (.bool true)], args := [d1, d2] }
  | _ => none }
def fnExactStartAtRow : OpenClaim := { program := "ytnalongggkmllaa", sum := "62becd8841e3c5201305c750a1e8eaa14c4fff6046407de2e390f47e3436f26a", func := "loop.example/g00991/laws.FnExactStartAt", spec := "fnExactStartAt", apart := false }
def FnExactStartAtSaid : Prop := fnExactStartAtRow.holds Try.pinned (OpenSpec.ofChange fnExactStartAtSpec)

/-- ITS FALSE NEIGHBOUR: 'it returns false'. Refute it at one input. -/
def fnExactStartAtWrong : ChangeSpec := { name := "fnExactStartAt", fn := fun _ => fun
  | [d1, d2] => { results := [.lit (.bool false)], args := [d1, d2] }
  | _ => none }
def FnExactStartAtWrongFalsely : Prop := fnExactStartAtRow.holds Try.pinned (OpenSpec.ofChange fnExactStartAtWrong)

/-- 'laws.FnExactFloorPoints': WHATEVER THE INPUT: true; the input reads as it did. -/
def fnExactFloorPointsSpec : ChangeSpec := { name := "fnExactFloorPoints", fn := fun _ => fun
  | [d] => { results := [.lit (.bool true)], args := [d] }
  | _ => none }
def fnExactFloorPointsRow : OpenClaim := { program := "ytnalongggkmllaa", sum := "62becd8841e3c5201305c750a1e8eaa14c4fff6046407de2e390f47e3436f26a", func := "loop.example/g00991/laws.FnExactFloorPoints", spec := "fnExactFloorPoints", apart := false }
def FnExactFloorPointsSaid : Prop := fnExactFloorPointsRow.holds Try.pinned (OpenSpec.ofChange fnExactFloorPointsSpec)

/-- ITS FALSE NEIGHBOUR: 'it returns false'. Refute it at one input. -/
def fnExactFloorPointsWrong : ChangeSpec := { name := "fnExactFloorPoints", fn := fun _ => fun
  | [d] => { results := [.lit (.bool false)], args := [d] }
  | _ => none }
def FnExactFloorPointsWrongFalsely : Prop := fnExactFloorPointsRow.holds Try.pinned (OpenSpec.ofChange fnExactFloorPointsWrong)

/-- 'laws.FnExactBlockingWall': WHATEVER THE INPUT: true; the input reads as it did. -/
def fnExactBlockingWallSpec : ChangeSpec := { name := "fnExactBlockingWall", fn := fun _ => fun
  | [d1, d2, d3] => { results := [.lit (.bool true)], args := [d1, d2, d3] }
  | _ => none }
def fnExactBlockingWallRow : OpenClaim := { program := "ytnalongggkmllaa", sum := "62becd8841e3c5201305c750a1e8eaa14c4fff6046407de2e390f47e3436f26a", func := "loop.example/g00991/laws.FnExactBlockingWall", spec := "fnExactBlockingWall", apart := false }
def FnExactBlockingWallSaid : Prop := fnExactBlockingWallRow.holds Try.pinned (OpenSpec.ofChange fnExactBlockingWallSpec)

/-- ITS FALSE NEIGHBOUR: 'it returns false'. Refute it at one input. -/
def fnExactBlockingWallWrong : ChangeSpec := { name := "fnExactBlockingWall", fn := fun _ => fun
  | [d1, d2, d3] => { results := [.lit (.bool false)], args := [d1, d2, d3] }
  | _ => none }
def FnExactBlockingWallWrongFalsely : Prop := fnExactBlockingWallRow.holds Try.pinned (OpenSpec.ofChange fnExactBlockingWallWrong)

/-- 'laws.FnExactAreApart': WHATEVER THE INPUT: true; the input reads as it did. -/
def fnExactAreApartSpec : ChangeSpec := { name := "fnExactAreApart", fn := fun _ => fun
  | [d1, d2] => { results := [.lit (.bool true)], args := [d1, d2] }
  | _ => none }
def fnExactAreApartRow : OpenClaim := { program := "ytnalongggkmllaa", sum := "62becd8841e3c5201305c750a1e8eaa14c4fff6046407de2e390f47e3436f26a", func := "loop.example/g00991/laws.FnExactAreApart", spec := "fnExactAreApart", apart := false }
def FnExactAreApartSaid : Prop := fnExactAreApartRow.holds Try.pinned (OpenSpec.ofChange fnExactAreApartSpec)

/-- ITS FALSE NEIGHBOUR: 'it returns false'. Refute it at one input. -/
def fnExactAreApartWrong : ChangeSpec := { name := "fnExactAreApart", fn := fun _ => fun
  | [d1, d2] => { results := [.lit (.bool false)], args := [d1, d2] }
  | _ => none }
def FnExactAreApartWrongFalsely : Prop := fnExactAreApartRow.holds Try.pinned (OpenSpec.ofChange fnExactAreApartWrong)

/-- 'laws.FnExactSees': WHATEVER THE INPUT: true; the input reads as it did. -/
def fnExactSeesSpec : ChangeSpec := { name := "fnExactSees", fn := fun _ => fun
  | [d1, d2, d3] => { results := [.lit (.bool true)], args := [d1, d2, d3] }
  | _ => none }
def fnExactSeesRow : OpenClaim := { program := "ytnalongggkmllaa", sum := "62becd8841e3c5201305c750a1e8eaa14c4fff6046407de2e390f47e3436f26a", func := "loop.example/g00991/laws.FnExactSees", spec := "fnExactSees", unfollowed := true, recurses := true, apart := false }
def FnExactSeesSaid : Prop := fnExactSeesRow.holds Try.pinned (OpenSpec.ofChange fnExactSeesSpec)

/-- ITS FALSE NEIGHBOUR: 'it returns false'. Refute it at one input. -/
def fnExactSeesWrong : ChangeSpec := { name := "fnExactSees", fn := fun _ => fun
  | [d1, d2, d3] => { results := [.lit (.bool false)], args := [d1, d2, d3] }
  | _ => none }
def FnExactSeesWrongFalsely : Prop := fnExactSeesRow.holds Try.pinned (OpenSpec.ofChange fnExactSeesWrong)

/-- 'laws.FnExactIsDiagonal': WHATEVER THE INPUT: true; the input reads as it did. -/
def fnExactIsDiagonalSpec : ChangeSpec := { name := "fnExactIsDiagonal", fn := fun _ => fun
  | [d1, d2, d3] => { results := [.lit (.bool true)], args := [d1, d2, d3] }
  | _ => none }
def fnExactIsDiagonalRow : OpenClaim := { program := "ytnalongggkmllaa", sum := "62becd8841e3c5201305c750a1e8eaa14c4fff6046407de2e390f47e3436f26a", func := "loop.example/g00991/laws.FnExactIsDiagonal", spec := "fnExactIsDiagonal", unfollowed := true, recurses := true, apart := false }
def FnExactIsDiagonalSaid : Prop := fnExactIsDiagonalRow.holds Try.pinned (OpenSpec.ofChange fnExactIsDiagonalSpec)

/-- ITS FALSE NEIGHBOUR: 'it returns false'. Refute it at one input. -/
def fnExactIsDiagonalWrong : ChangeSpec := { name := "fnExactIsDiagonal", fn := fun _ => fun
  | [d1, d2, d3] => { results := [.lit (.bool false)], args := [d1, d2, d3] }
  | _ => none }
def FnExactIsDiagonalWrongFalsely : Prop := fnExactIsDiagonalRow.holds Try.pinned (OpenSpec.ofChange fnExactIsDiagonalWrong)

/- THE SECOND FORM. 'bulk': how many values and letters a reading holds, each counted each time it is reached (what is shared counts as often as it is met; a slice's spare places count too). A statement '..UptoSaid' is the law's where the arguments, and the package variables that the reading takes, are together of bulk at most 1048576: NARROWER than '..Said'. Prove '..Said' where nothing that the law and all that it calls make is longer than what came in: it says more and counts as full. Else prove '..UptoSaid'. A law counts once. -/
mutual
def uptoBulk {H : Type} : DataW H → Nat
  | .lit (.string bytes) => bytes.length + 1
  | .lit _ => 1
  | .nil => 1
  | .ptr d => uptoBulk d + 1
  | .slice elems spare => uptoBulkAll elems + uptoBulkAll spare + 1
  | .agg parts => uptoBulkAll parts + 1
  | .iface _ d => uptoBulk d + 1
  | .map entries => uptoBulkEntries entries + 1
  | .held _ => 1
def uptoBulkAll {H : Type} : List (DataW H) → Nat
  | [] => 0
  | d :: r => uptoBulk d + uptoBulkAll r
def uptoBulkEntries {H : Type} : List (Lit × DataW H) → Nat
  | [] => 0
  | x :: r => uptoBulkEntry x + uptoBulkEntries r
def uptoBulkEntry {H : Type} : Lit × DataW H → Nat
  | (.string bytes, d) => bytes.length + uptoBulk d + 1
  | (_, d) => uptoBulk d + 1
 end
def uptoSmall : (H : Type) → List (DataW H) → Bool := fun _ ds => decide (uptoBulkAll ds ≤ 1048576)
def OpenSpec.upto (s : _root_.Go.ChangeSpec) : _root_.Go.OpenSpec := { _root_.Go.OpenSpec.ofChange s with cond := some uptoSmall }

/-- 'laws.FnExactStartAt', WHERE WHAT IT READS IS OF BULK AT MOST 1048576: true; the input reads as it did. -/
def fnExactStartAtUptoRow : OpenClaim := { program := "ytnalongggkmllaa", sum := "62becd8841e3c5201305c750a1e8eaa14c4fff6046407de2e390f47e3436f26a", func := "loop.example/g00991/laws.FnExactStartAt", spec := "fnExactStartAt", apart := false, narrowed := true }
def FnExactStartAtUptoSaid : Prop := fnExactStartAtUptoRow.holds Try.pinned (OpenSpec.upto fnExactStartAtSpec)

/-- 'laws.FnExactFloorPoints', WHERE WHAT IT READS IS OF BULK AT MOST 1048576: true; the input reads as it did. -/
def fnExactFloorPointsUptoRow : OpenClaim := { program := "ytnalongggkmllaa", sum := "62becd8841e3c5201305c750a1e8eaa14c4fff6046407de2e390f47e3436f26a", func := "loop.example/g00991/laws.FnExactFloorPoints", spec := "fnExactFloorPoints", apart := false, narrowed := true }
def FnExactFloorPointsUptoSaid : Prop := fnExactFloorPointsUptoRow.holds Try.pinned (OpenSpec.upto fnExactFloorPointsSpec)

/-- 'laws.FnExactBlockingWall', WHERE WHAT IT READS IS OF BULK AT MOST 1048576: true; the input reads as it did. -/
def fnExactBlockingWallUptoRow : OpenClaim := { program := "ytnalongggkmllaa", sum := "62becd8841e3c5201305c750a1e8eaa14c4fff6046407de2e390f47e3436f26a", func := "loop.example/g00991/laws.FnExactBlockingWall", spec := "fnExactBlockingWall", apart := false, narrowed := true }
def FnExactBlockingWallUptoSaid : Prop := fnExactBlockingWallUptoRow.holds Try.pinned (OpenSpec.upto fnExactBlockingWallSpec)

/-- 'laws.FnExactAreApart', WHERE WHAT IT READS IS OF BULK AT MOST 1048576: true; the input reads as it did. -/
def fnExactAreApartUptoRow : OpenClaim := { program := "ytnalongggkmllaa", sum := "62becd8841e3c5201305c750a1e8eaa14c4fff6046407de2e390f47e3436f26a", func := "loop.example/g00991/laws.FnExactAreApart", spec := "fnExactAreApart", apart := false, narrowed := true }
def FnExactAreApartUptoSaid : Prop := fnExactAreApartUptoRow.holds Try.pinned (OpenSpec.upto fnExactAreApartSpec)

/-- 'laws.FnExactSees', WHERE WHAT IT READS IS OF BULK AT MOST 1048576: true; the input reads as it did. -/
def fnExactSeesUptoRow : OpenClaim := { program := "ytnalongggkmllaa", sum := "62becd8841e3c5201305c750a1e8eaa14c4fff6046407de2e390f47e3436f26a", func := "loop.example/g00991/laws.FnExactSees", spec := "fnExactSees", unfollowed := true, recurses := true, apart := false, narrowed := true }
def FnExactSeesUptoSaid : Prop := fnExactSeesUptoRow.holds Try.pinned (OpenSpec.upto fnExactSeesSpec)

/-- 'laws.FnExactIsDiagonal', WHERE WHAT IT READS IS OF BULK AT MOST 1048576: true; the input reads as it did. -/
def fnExactIsDiagonalUptoRow : OpenClaim := { program := "ytnalongggkmllaa", sum := "62becd8841e3c5201305c750a1e8eaa14c4fff6046407de2e390f47e3436f26a", func := "loop.example/g00991/laws.FnExactIsDiagonal", spec := "fnExactIsDiagonal", unfollowed := true, recurses := true, apart := false, narrowed := true }
def FnExactIsDiagonalUptoSaid : Prop := fnExactIsDiagonalUptoRow.holds Try.pinned (OpenSpec.upto fnExactIsDiagonalSpec)

end Rows
end Go.Proofs.Ytnalongggkmllaa
