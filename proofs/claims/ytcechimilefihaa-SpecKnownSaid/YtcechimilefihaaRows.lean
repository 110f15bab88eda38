/-
  No cell of these rows narrows 'for every input' (looked for: loops, veiled, ifaces, maps, wideKeys, modest, calm, conditions, laid).
  DERIVED. THE GIVEN ROWS OF THIS SEAT. 9 by the template 'for every input the law returns true; each argument reads behind the call as it read before'; 0 by the template 'total and deterministic' (their statements: YtcechimilefihaaTotals.lean).
  GIVEN WITH THE SEED: the statements are not yours to turn. If you find one false, say at which input.
  Laid BY PROGRAM, IN A SANDBOX (cutbox-rows.mjs): the forced cells as the released guide's own fill.sh prints them over the translation 50521c33a054f82d… (all of the seat's roots in one cut). By AI agents, Wed Nov 11 2026. No macro, syntax, notation, axiom, sorry.
-/
import Derived.Test.YtcechimilefihaaChecked
import GoSem.Claim
import GoSem.ClaimJoined
import GoSem.ClaimMapViews
import Derived.JoinedTies
import Derived.KernelRfl
namespace Go.Proofs.Ytcechimilefihaa
/- THE CELL 'sum', in the pinned program and in every row, IS THE sha256 OF THE DUMP (.gsa) THAT YtcechimilefihaaProg.lean LOADS. Nothing in Lean hashes anything: it is a label: what it is worth is what the hold of that sum in a sandbox is worth. -/
noncomputable def Try.pinned : Pinned := { name := "ytcechimilefihaa", sum := "50521c33a054f82dc62fe3e9940bddc37d801209104e25310a22401003169e61", checked := Try.checked }
namespace Rows
def none {H : Type} : Left H := { results := [], args := [] }

/-- 'oxbowlaw05.SpecTells': WHATEVER THE INPUT: true; the input reads as it did. -/
def specTellsSpec : ChangeSpec := { name := "specTells", fn := fun _ => fun
  | [d1, d2] => { results := [.lit (.bool true)], args := [d1, d2] }
  | _ => none }
def specTellsRow : OpenClaim := { program := "ytcechimilefihaa", sum := "50521c33a054f82dc62fe3e9940bddc37d801209104e25310a22401003169e61", func := "oxbow/oxbowlaw05.SpecTells", spec := "specTells", unfollowed := true, recurses := true, apart := false }
def SpecTellsSaid : Prop := specTellsRow.holds Try.pinned (OpenSpec.ofChange specTellsSpec)

/-- ITS FALSE NEIGHBOUR: 'it returns false'. Refute it at one input. -/
def specTellsWrong : ChangeSpec := { name := "specTells", fn := fun _ => fun
  | [d1, d2] => { results := [.lit (.bool false)], args := [d1, d2] }
  | _ => none }
def SpecTellsWrongFalsely : Prop := specTellsRow.holds Try.pinned (OpenSpec.ofChange specTellsWrong)

/-- 'oxbowlaw05.SpecKnown': WHATEVER THE INPUT: true; the input reads as it did. -/
def specKnownSpec : ChangeSpec := { name := "specKnown", fn := fun _ => fun
  | [] => { results := [.lit (.bool true)], args := [] }
  | _ => none }
def specKnownRow : OpenClaim := { program := "ytcechimilefihaa", sum := "50521c33a054f82dc62fe3e9940bddc37d801209104e25310a22401003169e61", func := "oxbow/oxbowlaw05.SpecKnown", spec := "specKnown", unfollowed := true, recurses := true, apart := false }
def SpecKnownSaid : Prop := specKnownRow.holds Try.pinned (OpenSpec.ofChange specKnownSpec)

/-- ITS FALSE NEIGHBOUR: 'it returns false'. Refute it at one input. -/
def specKnownWrong : ChangeSpec := { name := "specKnown", fn := fun _ => fun
  | [] => { results := [.lit (.bool false)], args := [] }
  | _ => none }
def SpecKnownWrongFalsely : Prop := specKnownRow.holds Try.pinned (OpenSpec.ofChange specKnownWrong)

/-- 'oxbowlaw01.FracKnown': WHATEVER THE INPUT: true; the input reads as it did. -/
def fracKnownSpec : ChangeSpec := { name := "fracKnown", fn := fun _ => fun
  | [] => { results := [.lit (.bool true)], args := [] }
  | _ => none }
def fracKnownRow : OpenClaim := { program := "ytcechimilefihaa", sum := "50521c33a054f82dc62fe3e9940bddc37d801209104e25310a22401003169e61", func := "oxbow/oxbowlaw01.FracKnown", spec := "fracKnown", inPlace := ["math/bits.Add64"], named := ["math/bits.divideError", "math/bits.overflowError"], apart := false }
def FracKnownSaid : Prop := fracKnownRow.holds Try.pinned (OpenSpec.ofChange fracKnownSpec)

/-- ITS FALSE NEIGHBOUR: 'it returns false'. Refute it at one input. -/
def fracKnownWrong : ChangeSpec := { name := "fracKnown", fn := fun _ => fun
  | [] => { results := [.lit (.bool false)], args := [] }
  | _ => none }
def FracKnownWrongFalsely : Prop := fracKnownRow.holds Try.pinned (OpenSpec.ofChange fracKnownWrong)

/-- 'oxbowlaw26.SolveEnough': WHATEVER THE INPUT: true; the input reads as it did. -/
def solveEnoughSpec : ChangeSpec := { name := "solveEnough", fn := fun _ => fun
  | [d1, d2, d3, d4] => { results := [.lit (.bool true)], args := [d1, d2, d3, d4] }
  | _ => none }
def solveEnoughRow : OpenClaim := { program := "ytcechimilefihaa", sum := "50521c33a054f82dc62fe3e9940bddc37d801209104e25310a22401003169e61", func := "oxbow/oxbowlaw26.SolveEnough", spec := "solveEnough", inPlace := ["math/bits.Add64"], unfollowed := true, recurses := true, named := ["math/bits.divideError", "math/bits.overflowError"], apart := false }
def SolveEnoughSaid : Prop := solveEnoughRow.holds Try.pinned (OpenSpec.ofChange solveEnoughSpec)

/-- ITS FALSE NEIGHBOUR: 'it returns false'. Refute it at one input. -/
def solveEnoughWrong : ChangeSpec := { name := "solveEnough", fn := fun _ => fun
  | [d1, d2, d3, d4] => { results := [.lit (.bool false)], args := [d1, d2, d3, d4] }
  | _ => none }
def SolveEnoughWrongFalsely : Prop := solveEnoughRow.holds Try.pinned (OpenSpec.ofChange solveEnoughWrong)

/-- 'oxbowlaw26.SolveMore': WHATEVER THE INPUT: true; the input reads as it did. -/
def solveMoreSpec : ChangeSpec := { name := "solveMore", fn := fun _ => fun
  | [d1, d2, d3, d4, d5, d6] => { results := [.lit (.bool true)], args := [d1, d2, d3, d4, d5, d6] }
  | _ => none }
def solveMoreRow : OpenClaim := { program := "ytcechimilefihaa", sum := "50521c33a054f82dc62fe3e9940bddc37d801209104e25310a22401003169e61", func := "oxbow/oxbowlaw26.SolveMore", spec := "solveMore", inPlace := ["math/bits.Add64"], unfollowed := true, recurses := true, named := ["math/bits.divideError", "math/bits.overflowError"], apart := false }
def SolveMoreSaid : Prop := solveMoreRow.holds Try.pinned (OpenSpec.ofChange solveMoreSpec)

/-- ITS FALSE NEIGHBOUR: 'it returns false'. Refute it at one input. -/
def solveMoreWrong : ChangeSpec := { name := "solveMore", fn := fun _ => fun
  | [d1, d2, d3, d4, d5, d6] => { results := [.lit (.bool false)], args := [d1, d2, d3, d4, d5, d6] }
  | _ => none }
def SolveMoreWrongFalsely : Prop := solveMoreRow.holds Try.pinned (OpenSpec.ofChange solveMoreWrong)

/-- 'oxbowlaw26.SolveTells': WHATEVER THE INPUT: true; the input reads as it did. -/
def solveTellsSpec : ChangeSpec := { name := "solveTells", fn := fun _ => fun
  | [d1, d2, d3, d4] => { results := [.lit (.bool true)], args := [d1, d2, d3, d4] }
  | _ => none }
def solveTellsRow : OpenClaim := { program := "ytcechimilefihaa", sum := "50521c33a054f82dc62fe3e9940bddc37d801209104e25310a22401003169e61", func := "oxbow/oxbowlaw26.SolveTells", spec := "solveTells", inPlace := ["math/bits.Add64"], unfollowed := true, recurses := true, named := ["math/bits.divideError", "math/bits.overflowError"], apart := false }
def SolveTellsSaid : Prop := solveTellsRow.holds Try.pinned (OpenSpec.ofChange solveTellsSpec)

/-- ITS FALSE NEIGHBOUR: 'it returns false'. Refute it at one input. -/
def solveTellsWrong : ChangeSpec := { name := "solveTells", fn := fun _ => fun
  | [d1, d2, d3, d4] => { results := [.lit (.bool false)], args := [d1, d2, d3, d4] }
  | _ => none }
def SolveTellsWrongFalsely : Prop := solveTellsRow.holds Try.pinned (OpenSpec.ofChange solveTellsWrong)

/-- 'oxbowlaw26.SolveSteady': WHATEVER THE INPUT: true; the input reads as it did. -/
def solveSteadySpec : ChangeSpec := { name := "solveSteady", fn := fun _ => fun
  | [d1, d2, d3, d4, d5, d6] => { results := [.lit (.bool true)], args := [d1, d2, d3, d4, d5, d6] }
  | _ => none }
def solveSteadyRow : OpenClaim := { program := "ytcechimilefihaa", sum := "50521c33a054f82dc62fe3e9940bddc37d801209104e25310a22401003169e61", func := "oxbow/oxbowlaw26.SolveSteady", spec := "solveSteady", inPlace := ["math/bits.Add64"], unfollowed := true, recurses := true, named := ["math/bits.divideError", "math/bits.overflowError"], apart := false }
def SolveSteadySaid : Prop := solveSteadyRow.holds Try.pinned (OpenSpec.ofChange solveSteadySpec)

/-- ITS FALSE NEIGHBOUR: 'it returns false'. Refute it at one input. -/
def solveSteadyWrong : ChangeSpec := { name := "solveSteady", fn := fun _ => fun
  | [d1, d2, d3, d4, d5, d6] => { results := [.lit (.bool false)], args := [d1, d2, d3, d4, d5, d6] }
  | _ => none }
def SolveSteadyWrongFalsely : Prop := solveSteadyRow.holds Try.pinned (OpenSpec.ofChange solveSteadyWrong)

/-- 'oxbowlaw26.SolveKeeps': WHATEVER THE INPUT: true; the input reads as it did. -/
def solveKeepsSpec : ChangeSpec := { name := "solveKeeps", fn := fun _ => fun
  | [d1, d2, d3, d4] => { results := [.lit (.bool true)], args := [d1, d2, d3, d4] }
  | _ => none }
def solveKeepsRow : OpenClaim := { program := "ytcechimilefihaa", sum := "50521c33a054f82dc62fe3e9940bddc37d801209104e25310a22401003169e61", func := "oxbow/oxbowlaw26.SolveKeeps", spec := "solveKeeps", inPlace := ["math/bits.Add64"], unfollowed := true, recurses := true, named := ["math/bits.divideError", "math/bits.overflowError"], apart := false }
def SolveKeepsSaid : Prop := solveKeepsRow.holds Try.pinned (OpenSpec.ofChange solveKeepsSpec)

/-- ITS FALSE NEIGHBOUR: 'it returns false'. Refute it at one input. -/
def solveKeepsWrong : ChangeSpec := { name := "solveKeeps", fn := fun _ => fun
  | [d1, d2, d3, d4] => { results := [.lit (.bool false)], args := [d1, d2, d3, d4] }
  | _ => none }
def SolveKeepsWrongFalsely : Prop := solveKeepsRow.holds Try.pinned (OpenSpec.ofChange solveKeepsWrong)

/-- 'oxbowlaw26.SolveKnown': WHATEVER THE INPUT: true; the input reads as it did. -/
def solveKnownSpec : ChangeSpec := { name := "solveKnown", fn := fun _ => fun
  | [] => { results := [.lit (.bool true)], args := [] }
  | _ => none }
def solveKnownRow : OpenClaim := { program := "ytcechimilefihaa", sum := "50521c33a054f82dc62fe3e9940bddc37d801209104e25310a22401003169e61", func := "oxbow/oxbowlaw26.SolveKnown", spec := "solveKnown", inPlace := ["math/bits.Add64"], unfollowed := true, recurses := true, named := ["math/bits.divideError", "math/bits.overflowError"], apart := false }
def SolveKnownSaid : Prop := solveKnownRow.holds Try.pinned (OpenSpec.ofChange solveKnownSpec)

/-- ITS FALSE NEIGHBOUR: 'it returns false'. Refute it at one input. -/
def solveKnownWrong : ChangeSpec := { name := "solveKnown", fn := fun _ => fun
  | [] => { results := [.lit (.bool false)], args := [] }
  | _ => none }
def SolveKnownWrongFalsely : Prop := solveKnownRow.holds Try.pinned (OpenSpec.ofChange solveKnownWrong)

/- THE SECOND FORM. 'bulk': how many values and letters a reading holds, each counted each time it is reached (what is shared counts as often as it is met; a slice's spare places count too). A statement '..UptoSaid' is the law's where the arguments, and the package variables that the reading takes, are together of bulk at most 1048576: NARROWER than '..Said'. Prove '..Said' where nothing that the law and all that it calls make is longer than what came in: it says more and counts as full. Else prove '..UptoSaid'. A law counts once. -/
mutual
def uptoBulk {H : Type} : DataW H → Nat
  | .lit (.string bytes) => bytes.length + 1
  | .lit _ => 1
  | .nil => 1
  | .ptr d => uptoBulk d + 1
  | .slice elems spare => uptoBulkAll elems + uptoBulkAll spare + 1
  | .agg parts => uptoBulkAll parts + 1
  | .iface _ d => uptoBulk d + 1
  | .map entries => uptoBulkEntries entries + 1
  | .held _ => 1
def uptoBulkAll {H : Type} : List (DataW H) → Nat
  | [] => 0
  | d :: r => uptoBulk d + uptoBulkAll r
def uptoBulkEntries {H : Type} : List (Lit × DataW H) → Nat
  | [] => 0
  | x :: r => uptoBulkEntry x + uptoBulkEntries r
def uptoBulkEntry {H : Type} : Lit × DataW H → Nat
  | (.string bytes, d) => bytes.length + uptoBulk d + 1
  | (_, d) => uptoBulk d + 1
 end
def uptoSmall : (H : Type) → List (DataW H) → Bool := fun _ ds => decide (uptoBulkAll ds ≤ 1048576)
def OpenSpec.upto (s : _root_.Go.ChangeSpec) : _root_.Go.OpenSpec := { _root_.Go.OpenSpec.ofChange s with cond := some uptoSmall }

/-- 'oxbowlaw05.SpecTells', WHERE WHAT IT READS IS OF BULK AT MOST 1048576: true; the input reads as it did. -/
def specTellsUptoRow : OpenClaim := { program := "ytcechimilefihaa", sum := "50521c33a054f82dc62fe3e9940bddc37d801209104e25310a22401003169e61", func := "oxbow/oxbowlaw05.SpecTells", spec := "specTells", unfollowed := true, recurses := true, apart := false, narrowed := true }
def SpecTellsUptoSaid : Prop := specTellsUptoRow.holds Try.pinned (OpenSpec.upto specTellsSpec)

/-- 'oxbowlaw05.SpecKnown', WHERE WHAT IT READS IS OF BULK AT MOST 1048576: true; the input reads as it did. -/
def specKnownUptoRow : OpenClaim := { program := "ytcechimilefihaa", sum := "50521c33a054f82dc62fe3e9940bddc37d801209104e25310a22401003169e61", func := "oxbow/oxbowlaw05.SpecKnown", spec := "specKnown", unfollowed := true, recurses := true, apart := false, narrowed := true }
def SpecKnownUptoSaid : Prop := specKnownUptoRow.holds Try.pinned (OpenSpec.upto specKnownSpec)

/-- 'oxbowlaw01.FracKnown', WHERE WHAT IT READS IS OF BULK AT MOST 1048576: true; the input reads as it did. -/
def fracKnownUptoRow : OpenClaim := { program := "ytcechimilefihaa", sum := "50521c33a054f82dc62fe3e9940bddc37d801209104e25310a22401003169e61", func := "oxbow/oxbowlaw01.FracKnown", spec := "fracKnown", inPlace := ["math/bits.Add64"], named := ["math/bits.divideError", "math/bits.overflowError"], apart := false, narrowed := true }
def FracKnownUptoSaid : Prop := fracKnownUptoRow.holds Try.pinned (OpenSpec.upto fracKnownSpec)

/-- 'oxbowlaw26.SolveEnough', WHERE WHAT IT READS IS OF BULK AT MOST 1048576: true; the input reads as it did. -/
def solveEnoughUptoRow : OpenClaim := { program := "ytcechimilefihaa", sum := "50521c33a054f82dc62fe3e9940bddc37d801209104e25310a22401003169e61", func := "oxbow/oxbowlaw26.SolveEnough", spec := "solveEnough", inPlace := ["math/bits.Add64"], unfollowed := true, recurses := true, named := ["math/bits.divideError", "math/bits.overflowError"], apart := false, narrowed := true }
def SolveEnoughUptoSaid : Prop := solveEnoughUptoRow.holds Try.pinned (OpenSpec.upto solveEnoughSpec)

/-- 'oxbowlaw26.SolveMore', WHERE WHAT IT READS IS OF BULK AT MOST 1048576: true; the input reads as it did. -/
def solveMoreUptoRow : OpenClaim := { program := "ytcechimilefihaa", sum := "50521c33a054f82dc62fe3e9940bddc37d801209104e25310a22401003169e61", func := "oxbow/oxbowlaw26.SolveMore", spec := "solveMore", inPlace := ["math/bits.Add64"], unfollowed := true, recurses := true, named := ["math/bits.divideError", "math/bits.overflowError"], apart := false, narrowed := true }
def SolveMoreUptoSaid : Prop := solveMoreUptoRow.holds Try.pinned (OpenSpec.upto solveMoreSpec)

/-- 'oxbowlaw26.SolveTells', WHERE WHAT IT READS IS OF BULK AT MOST 1048576: true; the input reads as it did. -/
def solveTellsUptoRow : OpenClaim := { program := "ytcechimilefihaa", sum := "50521c33a054f82dc62fe3e9940bddc37d801209104e25310a22401003169e61", func := "oxbow/oxbowlaw26.SolveTells", spec := "solveTells", inPlace := ["math/bits.Add64"], unfollowed := true, recurses := true, named := ["math/bits.divideError", "math/bits.overflowError"], apart := false, narrowed := true }
def SolveTellsUptoSaid : Prop := solveTellsUptoRow.holds Try.pinned (OpenSpec.upto solveTellsSpec)

/-- 'oxbowlaw26.SolveSteady', WHERE WHAT IT READS IS OF BULK AT MOST 1048576: true; the input reads as it did. -/
def solveSteadyUptoRow : OpenClaim := { program := "ytcechimilefihaa", sum := "50521c33a054f82dc62fe3e9940bddc37d801209104e25310a22401003169e61", func := "oxbow/oxbowlaw26.SolveSteady", spec := "solveSteady", inPlace := ["math/bits.Add64"], unfollowed := true, recurses := true, named := ["math/bits.divideError", "math/bits.overflowError"], apart := false, narrowed := true }
def SolveSteadyUptoSaid : Prop := solveSteadyUptoRow.holds Try.pinned (OpenSpec.upto solveSteadySpec)

/-- 'oxbowlaw26.SolveKeeps', WHERE WHAT IT READS IS OF BULK AT MOST 1048576: true; the input reads as it did. -/
def solveKeepsUptoRow : OpenClaim := { program := "ytcechimilefihaa", sum := "50521c33a054f82dc62fe3e9940bddc37d801209104e25310a22401003169e61", func := "oxbow/oxbowlaw26.SolveKeeps", spec := "solveKeeps", inPlace := ["math/bits.Add64"], unfollowed := true, recurses := true, named := ["math/bits.divideError", "math/bits.overflowError"], apart := false, narrowed := true }
def SolveKeepsUptoSaid : Prop := solveKeepsUptoRow.holds Try.pinned (OpenSpec.upto solveKeepsSpec)

/-- 'oxbowlaw26.SolveKnown', WHERE WHAT IT READS IS OF BULK AT MOST 1048576: true; the input reads as it did. -/
def solveKnownUptoRow : OpenClaim := { program := "ytcechimilefihaa", sum := "50521c33a054f82dc62fe3e9940bddc37d801209104e25310a22401003169e61", func := "oxbow/oxbowlaw26.SolveKnown", spec := "solveKnown", inPlace := ["math/bits.Add64"], unfollowed := true, recurses := true, named := ["math/bits.divideError", "math/bits.overflowError"], apart := false, narrowed := true }
def SolveKnownUptoSaid : Prop := solveKnownUptoRow.holds Try.pinned (OpenSpec.upto solveKnownSpec)

end Rows
end Go.Proofs.Ytcechimilefihaa
