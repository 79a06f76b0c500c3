/-
  No cell of these rows narrows 'for every input' (looked for: loops, veiled, ifaces, maps, wideKeys, modest, calm, conditions, laid).
  DERIVED. THE GIVEN ROWS OF THIS SEAT. 9 by the template 'for every input the law returns true; each argument reads behind the call as it read before'; 0 by the template 'total and deterministic' (their statements: YtlghppkifccakaaTotals.lean).
  GIVEN WITH THE SEED: the statements are not yours to turn. If you find one false, say at which input.
  Laid BY PROGRAM, IN A SANDBOX (cutbox-rows.mjs): the forced cells as the released guide's own fill.sh prints them over the translation 4897f2445ae89bec… (all of the seat's roots in one cut). By AI agents, Wed Nov 11 2026. No macro, syntax, notation, axiom, sorry.
-/
import Derived.Test.YtlghppkifccakaaChecked
import GoSem.Claim
import GoSem.ClaimJoined
import GoSem.ClaimMapViews
import Derived.JoinedTies
import Derived.KernelRfl
namespace Go.Proofs.Ytlghppkifccakaa
/- THE CELL 'sum', in the pinned program and in every row, IS THE sha256 OF THE DUMP (.gsa) THAT YtlghppkifccakaaProg.lean LOADS. Nothing in Lean hashes anything: it is a label: what it is worth is what the hold of that sum in a sandbox is worth. -/
noncomputable def Try.pinned : Pinned := { name := "ytlghppkifccakaa", sum := "4897f2445ae89becf23bbc8e7354337a1d301ab6e35f8329751cfb30baae956e", checked := Try.checked }
namespace Rows
def none {H : Type} : Left H := { results := [], args := [] }

/-- 'laws.FnExactLatticeSteps': WHATEVER THE INPUT: true; the input reads as it did. -/
def fnExactLatticeStepsSpec : ChangeSpec := { name := "fnExactLatticeSteps", fn := fun _ => fun
  | [d] => { results := [.lit (.bool true)], args := [d] }
  | _ => none }
def fnExactLatticeStepsRow : OpenClaim := { program := "ytlghppkifccakaa", sum := "4897f2445ae89becf23bbc8e7354337a1d301ab6e35f8329751cfb30baae956e", func := "loop.example/g00991/laws.FnExactLatticeSteps", spec := "fnExactLatticeSteps", apart := false }
def FnExactLatticeStepsSaid : Prop := fnExactLatticeStepsRow.holds Try.pinned (OpenSpec.ofChange fnExactLatticeStepsSpec)

/-- ITS FALSE NEIGHBOUR: 'it returns false'. Refute it at one input. -/
def fnExactLatticeStepsWrong : ChangeSpec := { name := "fnExactLatticeSteps", fn := fun _ => fun
  | [d] => { results := [.lit (.bool false)], args := [d] }
  | _ => none }
def FnExactLatticeStepsWrongFalsely : Prop := fnExactLatticeStepsRow.holds Try.pinned (OpenSpec.ofChange fnExactLatticeStepsWrong)

/-- 'laws.FnExactDoCross': WHATEVER THE INPUT: true; the input reads as it did. -/
def fnExactDoCrossSpec : ChangeSpec := { name := "fnExactDoCross", fn := fun _ => fun
  | [d1, d2] => { results := [.lit (.bool true)], args := [d1, d2] }
  | _ => none }
def fnExactDoCrossRow : OpenClaim := { program := "ytlghppkifccakaa", sum := "4897f2445ae89becf23bbc8e7354337a1d301ab6e35f8329751cfb30baae956e", func := "loop.example/g00991/laws.FnExactDoCross", spec := "fnExactDoCross", apart := false }
def FnExactDoCrossSaid : Prop := fnExactDoCrossRow.holds Try.pinned (OpenSpec.ofChange fnExactDoCrossSpec)

/-- ITS FALSE NEIGHBOUR: 'it returns false'. Refute it at one input. -/
def fnExactDoCrossWrong : ChangeSpec := { name := "fnExactDoCross", fn := fun _ => fun
  | [d1, d2] => { results := [.lit (.bool false)], args := [d1, d2] }
  | _ => none }
def FnExactDoCrossWrongFalsely : Prop := fnExactDoCrossRow.holds Try.pinned (OpenSpec.ofChange fnExactDoCrossWrong)

/-- 'laws.FnExactIsCorner': WHATEVER THE INPUT: true; the input reads as it did. -/
def fnExactIsCornerSpec : ChangeSpec := { name := "fnExactIsCorner", fn := fun _ => fun
  | [d1, d2] => { results := [.lit (.bool true)], args := [d1, d2] }
  | _ => none }
def fnExactIsCornerRow : OpenClaim := { program := "ytlghppkifccakaa", sum := "4897f2445ae89becf23bbc8e7354337a1d301ab6e35f8329751cfb30baae956e", func := "loop.example/g00991/laws.FnExactIsCorner", spec := "fnExactIsCorner", apart := false }
def FnExactIsCornerSaid : Prop := fnExactIsCornerRow.holds Try.pinned (OpenSpec.ofChange fnExactIsCornerSpec)

/-- ITS FALSE NEIGHBOUR: 'it returns false'. Refute it at one input. -/
def fnExactIsCornerWrong : ChangeSpec := { name := "fnExactIsCorner", fn := fun _ => fun
  | [d1, d2] => { results := [.lit (.bool false)], args := [d1, d2] }
  | _ => none }
def FnExactIsCornerWrongFalsely : Prop := fnExactIsCornerRow.holds Try.pinned (OpenSpec.ofChange fnExactIsCornerWrong)

/-- 'laws.FnTurns': WHATEVER THE INPUT: true; the input reads as it did. -/
def fnTurnsSpec : ChangeSpec := { name := "fnTurns", fn := fun _ => fun
  | [d] => { results := [.lit (.bool true)], args := [d] }
  | _ => none }
def fnTurnsRow : OpenClaim := { program := "ytlghppkifccakaa", sum := "4897f2445ae89becf23bbc8e7354337a1d301ab6e35f8329751cfb30baae956e", func := "loop.example/g00991/laws.FnTurns", spec := "fnTurns", apart := false }
def FnTurnsSaid : Prop := fnTurnsRow.holds Try.pinned (OpenSpec.ofChange fnTurnsSpec)

/-- ITS FALSE NEIGHBOUR: 'it returns false'. Refute it at one input. -/
def fnTurnsWrong : ChangeSpec := { name := "fnTurns", fn := fun _ => fun
  | [d] => { results := [.lit (.bool false)], args := [d] }
  | _ => none }
def FnTurnsWrongFalsely : Prop := fnTurnsRow.holds Try.pinned (OpenSpec.ofChange fnTurnsWrong)

/-- 'laws.FnExactCornerAt': WHATEVER THE INPUT: true; the input reads as it did. -/
def fnExactCornerAtSpec : ChangeSpec := { name := "fnExactCornerAt", fn := fun _ => fun
  | [d1, d2] => { results := [.lit (.bool true)], args := [d1, d2] }
  | _ => none }
def fnExactCornerAtRow : OpenClaim := { program := "ytlghppkifccakaa", sum := "4897f2445ae89becf23bbc8e7354337a1d301ab6e35f8329751cfb30baae956e", func := "loop.example/g00991/laws.FnExactCornerAt", spec := "fnExactCornerAt", apart := false }
def FnExactCornerAtSaid : Prop := fnExactCornerAtRow.holds Try.pinned (OpenSpec.ofChange fnExactCornerAtSpec)

/-- ITS FALSE NEIGHBOUR: 'it returns false'. Refute it at one input. -/
def fnExactCornerAtWrong : ChangeSpec := { name := "fnExactCornerAt", fn := fun _ => fun
  | [d1, d2] => { results := [.lit (.bool false)], args := [d1, d2] }
  | _ => none }
def FnExactCornerAtWrongFalsely : Prop := fnExactCornerAtRow.holds Try.pinned (OpenSpec.ofChange fnExactCornerAtWrong)

/-- 'laws.FnExactDoMeet': WHATEVER THE INPUT: true; the input reads as it did. -/
def fnExactDoMeetSpec : ChangeSpec := { name := "fnExactDoMeet", fn := fun _ => fun
  | [d1, d2] => { results := [.lit (.bool true)], args := [d1, d2] }
  | _ => none }
def fnExactDoMeetRow : OpenClaim := { program := "ytlghppkifccakaa", sum := "4897f2445ae89becf23bbc8e7354337a1d301ab6e35f8329751cfb30baae956e", func := "loop.example/g00991/laws.FnExactDoMeet", spec := "fnExactDoMeet", apart := false }
def FnExactDoMeetSaid : Prop := fnExactDoMeetRow.holds Try.pinned (OpenSpec.ofChange fnExactDoMeetSpec)

/-- ITS FALSE NEIGHBOUR: 'it returns false'. Refute it at one input. -/
def fnExactDoMeetWrong : ChangeSpec := { name := "fnExactDoMeet", fn := fun _ => fun
  | [d1, d2] => { results := [.lit (.bool false)], args := [d1, d2] }
  | _ => none }
def FnExactDoMeetWrongFalsely : Prop := fnExactDoMeetRow.holds Try.pinned (OpenSpec.ofChange fnExactDoMeetWrong)

/-- 'laws.FnExactDoubleArea': WHATEVER THE INPUT: true; the input reads as it did. -/
def fnExactDoubleAreaSpec : ChangeSpec := { name := "fnExactDoubleArea", fn := fun _ => fun
  | [d] => { results := [.lit (.bool true)], args := [d] }
  | _ => none }
def fnExactDoubleAreaRow : OpenClaim := { program := "ytlghppkifccakaa", sum := "4897f2445ae89becf23bbc8e7354337a1d301ab6e35f8329751cfb30baae956e", func := "loop.example/g00991/laws.FnExactDoubleArea", spec := "fnExactDoubleArea", apart := false }
def FnExactDoubleAreaSaid : Prop := fnExactDoubleAreaRow.holds Try.pinned (OpenSpec.ofChange fnExactDoubleAreaSpec)

/-- ITS FALSE NEIGHBOUR: 'it returns false'. Refute it at one input. -/
def fnExactDoubleAreaWrong : ChangeSpec := { name := "fnExactDoubleArea", fn := fun _ => fun
  | [d] => { results := [.lit (.bool false)], args := [d] }
  | _ => none }
def FnExactDoubleAreaWrongFalsely : Prop := fnExactDoubleAreaRow.holds Try.pinned (OpenSpec.ofChange fnExactDoubleAreaWrong)

/-- 'laws.FnWalls': WHATEVER THE INPUT: true; the input reads as it did. -/
def fnWallsSpec : ChangeSpec := { name := "fnWalls", fn := fun _ => fun
  | [d] => { results := [.lit (.bool true)], args := [d] }
  | _ => none }
def fnWallsRow : OpenClaim := { program := "ytlghppkifccakaa", sum := "4897f2445ae89becf23bbc8e7354337a1d301ab6e35f8329751cfb30baae956e", func := "loop.example/g00991/laws.FnWalls", spec := "fnWalls", apart := false }
def FnWallsSaid : Prop := fnWallsRow.holds Try.pinned (OpenSpec.ofChange fnWallsSpec)

/-- ITS FALSE NEIGHBOUR: 'it returns false'. Refute it at one input. -/
def fnWallsWrong : ChangeSpec := { name := "fnWalls", fn := fun _ => fun
  | [d] => { results := [.lit (.bool false)], args := [d] }
  | _ => none }
def FnWallsWrongFalsely : Prop := fnWallsRow.holds Try.pinned (OpenSpec.ofChange fnWallsWrong)

/-- 'laws.FnExactIsOnWall': WHATEVER THE INPUT: true; the input reads as it did. -/
def fnExactIsOnWallSpec : ChangeSpec := { name := "fnExactIsOnWall", fn := fun _ => fun
  | [d1, d2] => { results := [.lit (.bool true)], args := [d1, d2] }
  | _ => none }
def fnExactIsOnWallRow : OpenClaim := { program := "ytlghppkifccakaa", sum := "4897f2445ae89becf23bbc8e7354337a1d301ab6e35f8329751cfb30baae956e", func := "loop.example/g00991/laws.FnExactIsOnWall", spec := "fnExactIsOnWall", apart := false }
def FnExactIsOnWallSaid : Prop := fnExactIsOnWallRow.holds Try.pinned (OpenSpec.ofChange fnExactIsOnWallSpec)

/-- ITS FALSE NEIGHBOUR: 'it returns false'. Refute it at one input. -/
def fnExactIsOnWallWrong : ChangeSpec := { name := "fnExactIsOnWall", fn := fun _ => fun
  | [d1, d2] => { results := [.lit (.bool false)], args := [d1, d2] }
  | _ => none }
def FnExactIsOnWallWrongFalsely : Prop := fnExactIsOnWallRow.holds Try.pinned (OpenSpec.ofChange fnExactIsOnWallWrong)

/- THE SECOND FORM. 'bulk': how many values and letters a reading holds, each counted each time it is reached (what is shared counts as often as it is met; a slice's spare places count too). A statement '..UptoSaid' is the law's where the arguments, and the package variables that the reading takes, are together of bulk at most 1048576: NARROWER than '..Said'. Prove '..Said' where nothing that the law and all that it calls make is longer than what came in: it says more and counts as full. Else prove '..UptoSaid'. A law counts once. -/
mutual
def uptoBulk {H : Type} : DataW H → Nat
  | .lit (.string bytes) => bytes.length + 1
  | .lit _ => 1
  | .nil => 1
  | .ptr d => uptoBulk d + 1
  | .slice elems spare => uptoBulkAll elems + uptoBulkAll spare + 1
  | .agg parts => uptoBulkAll parts + 1
  | .iface _ d => uptoBulk d + 1
  | .map entries => uptoBulkEntries entries + 1
  | .held _ => 1
def uptoBulkAll {H : Type} : List (DataW H) → Nat
  | [] => 0
  | d :: r => uptoBulk d + uptoBulkAll r
def uptoBulkEntries {H : Type} : List (Lit × DataW H) → Nat
  | [] => 0
  | x :: r => uptoBulkEntry x + uptoBulkEntries r
def uptoBulkEntry {H : Type} : Lit × DataW H → Nat
  | (.string bytes, d) => bytes.length + uptoBulk d + 1
  | (_, d) => uptoBulk d + 1
 end
def uptoSmall : (H : Type) → List (DataW H) → Bool := fun _ ds => decide (uptoBulkAll ds ≤ 1048576)
def OpenSpec.upto (s : _root_.Go.ChangeSpec) : _root_.Go.OpenSpec := { _root_.Go.OpenSpec.ofChange s with cond := some uptoSmall }

/-- 'laws.FnExactLatticeSteps', WHERE WHAT IT READS IS OF BULK AT MOST 1048576: true; the input reads as it did. -/
def fnExactLatticeStepsUptoRow : OpenClaim := { program := "ytlghppkifccakaa", sum := "4897f2445ae89becf23bbc8e7354337a1d301ab6e35f8329751cfb30baae956e", func := "loop.example/g00991/laws.FnExactLatticeSteps", spec := "fnExactLatticeSteps", apart := false, narrowed := true }
def FnExactLatticeStepsUptoSaid : Prop := fnExactLatticeStepsUptoRow.holds Try.pinned (OpenSpec.upto fnExactLatticeStepsSpec)

/-- 'laws.FnExactDoCross', WHERE WHAT IT READS IS OF BULK AT MOST 1048576: true; the input reads as it did. -/
def fnExactDoCrossUptoRow : OpenClaim := { program := "ytlghppkifccakaa", sum := "4897f2445ae89becf23bbc8e7354337a1d301ab6e35f8329751cfb30baae956e", func := "loop.example/g00991/laws.FnExactDoCross", spec := "fnExactDoCross", apart := false, narrowed := true }
def FnExactDoCrossUptoSaid : Prop := fnExactDoCrossUptoRow.holds Try.pinned (OpenSpec.upto fnExactDoCrossSpec)

/-- 'laws.FnExactIsCorner', WHERE WHAT IT READS IS OF BULK AT MOST 1048576: true; the input reads as it did. -/
def fnExactIsCornerUptoRow : OpenClaim := { program := "ytlghppkifccakaa", sum := "4897f2445ae89becf23bbc8e7354337a1d301ab6e35f8329751cfb30baae956e", func := "loop.example/g00991/laws.FnExactIsCorner", spec := "fnExactIsCorner", apart := false, narrowed := true }
def FnExactIsCornerUptoSaid : Prop := fnExactIsCornerUptoRow.holds Try.pinned (OpenSpec.upto fnExactIsCornerSpec)

/-- 'laws.FnTurns', WHERE WHAT IT READS IS OF BULK AT MOST 1048576: true; the input reads as it did. -/
def fnTurnsUptoRow : OpenClaim := { program := "ytlghppkifccakaa", sum := "4897f2445ae89becf23bbc8e7354337a1d301ab6e35f8329751cfb30baae956e", func := "loop.example/g00991/laws.FnTurns", spec := "fnTurns", apart := false, narrowed := true }
def FnTurnsUptoSaid : Prop := fnTurnsUptoRow.holds Try.pinned (OpenSpec.upto fnTurnsSpec)

/-- 'laws.FnExactCornerAt', WHERE WHAT IT READS IS OF BULK AT MOST 1048576: true; the input reads as it did. -/
def fnExactCornerAtUptoRow : OpenClaim := { program := "ytlghppkifccakaa", sum := "4897f2445ae89becf23bbc8e7354337a1d301ab6e35f8329751cfb30baae956e", func := "loop.example/g00991/laws.FnExactCornerAt", spec := "fnExactCornerAt", apart := false, narrowed := true }
def FnExactCornerAtUptoSaid : Prop := fnExactCornerAtUptoRow.holds Try.pinned (OpenSpec.upto fnExactCornerAtSpec)

/-- 'laws.FnExactDoMeet', WHERE WHAT IT READS IS OF BULK AT MOST 1048576: true; the input reads as it did. -/
def fnExactDoMeetUptoRow : OpenClaim := { program := "ytlghppkifccakaa", sum := "4897f2445ae89becf23bbc8e7354337a1d301ab6e35f8329751cfb30baae956e", func := "loop.example/g00991/laws.FnExactDoMeet", spec := "fnExactDoMeet", apart := false, narrowed := true }
def FnExactDoMeetUptoSaid : Prop := fnExactDoMeetUptoRow.holds Try.pinned (OpenSpec.upto fnExactDoMeetSpec)

/-- 'laws.FnExactDoubleArea', WHERE WHAT IT READS IS OF BULK AT MOST 1048576: true; the input reads as it did. -/
def fnExactDoubleAreaUptoRow : OpenClaim := { program := "ytlghppkifccakaa", sum := "4897f2445ae89becf23bbc8e7354337a1d301ab6e35f8329751cfb30baae956e", func := "loop.example/g00991/laws.FnExactDoubleArea", spec := "fnExactDoubleArea", apart := false, narrowed := true }
def FnExactDoubleAreaUptoSaid : Prop := fnExactDoubleAreaUptoRow.holds Try.pinned (OpenSpec.upto fnExactDoubleAreaSpec)

/-- 'laws.FnWalls', WHERE WHAT IT READS IS OF BULK AT MOST 1048576: true; the input reads as it did. -/
def fnWallsUptoRow : OpenClaim := { program := "ytlghppkifccakaa", sum := "4897f2445ae89becf23bbc8e7354337a1d301ab6e35f8329751cfb30baae956e", func := "loop.example/g00991/laws.FnWalls", spec := "fnWalls", apart := false, narrowed := true }
def FnWallsUptoSaid : Prop := fnWallsUptoRow.holds Try.pinned (OpenSpec.upto fnWallsSpec)

/-- 'laws.FnExactIsOnWall', WHERE WHAT IT READS IS OF BULK AT MOST 1048576: true; the input reads as it did. -/
def fnExactIsOnWallUptoRow : OpenClaim := { program := "ytlghppkifccakaa", sum := "4897f2445ae89becf23bbc8e7354337a1d301ab6e35f8329751cfb30baae956e", func := "loop.example/g00991/laws.FnExactIsOnWall", spec := "fnExactIsOnWall", apart := false, narrowed := true }
def FnExactIsOnWallUptoSaid : Prop := fnExactIsOnWallUptoRow.holds Try.pinned (OpenSpec.upto fnExactIsOnWallSpec)

end Rows
end Go.Proofs.Ytlghppkifccakaa
