/-
  No cell of these rows narrows 'for every input' (looked for: loops, veiled, ifaces, maps, wideKeys, modest, calm, conditions, laid).
  DERIVED. THE GIVEN ROWS OF THIS SEAT. 10 by the template 'for every input the law returns true; each argument reads behind the call as it read before'; 0 by the template 'total and deterministic' (their statements: YtlhjhjkfnmeapaaTotals.lean).
  GIVEN WITH THE SEED: the statements are not yours to turn. If you find one false, say at which input.
  Laid BY PROGRAM, IN A SANDBOX (cutbox-rows.mjs): the forced cells as the released guide's own fill.sh prints them over the translation 9efcf3929078cad6… (all of the seat's roots in one cut). By AI agents, Wed Nov 11 2026. No macro, syntax, notation, axiom, sorry.
-/
import Derived.Test.YtlhjhjkfnmeapaaChecked
import GoSem.Claim
import GoSem.ClaimJoined
import GoSem.ClaimMapViews
import Derived.JoinedTies
import Derived.KernelRfl
namespace Go.Proofs.Ytlhjhjkfnmeapaa
/- THE CELL 'sum', in the pinned program and in every row, IS THE sha256 OF THE DUMP (.gsa) THAT YtlhjhjkfnmeapaaProg.lean LOADS. Nothing in Lean hashes anything: it is a label: what it is worth is what the hold of that sum in a sandbox is worth. -/
noncomputable def Try.pinned : Pinned := { name := "ytlhjhjkfnmeapaa", sum := "9efcf3929078cad687e82816e570d88c963861047664a90396bd3666a024503c", checked := Try.checked }
namespace Rows
def none {H : Type} : Left H := { results := [], args := [] }

/-- 'oxbowlaw09.MovesPlans': WHATEVER THE INPUT: true; the input reads as it did. -/
def movesPlansSpec : ChangeSpec := { name := "movesPlans", fn := fun _ => fun
  | [d1, d2, d3] => { results := [.lit (.bool true)], args := [d1, d2, d3] }
  | _ => none }
def movesPlansRow : OpenClaim := { program := "ytlhjhjkfnmeapaa", sum := "9efcf3929078cad687e82816e570d88c963861047664a90396bd3666a024503c", func := "oxbow/oxbowlaw09.MovesPlans", spec := "movesPlans", unfollowed := true, recurses := true, apart := false }
def MovesPlansSaid : Prop := movesPlansRow.holds Try.pinned (OpenSpec.ofChange movesPlansSpec)

/-- ITS FALSE NEIGHBOUR: 'it returns false'. Refute it at one input. -/
def movesPlansWrong : ChangeSpec := { name := "movesPlans", fn := fun _ => fun
  | [d1, d2, d3] => { results := [.lit (.bool false)], args := [d1, d2, d3] }
  | _ => none }
def MovesPlansWrongFalsely : Prop := movesPlansRow.holds Try.pinned (OpenSpec.ofChange movesPlansWrong)

/-- 'oxbowlaw09.MovesBring': WHATEVER THE INPUT: true; the input reads as it did. -/
def movesBringSpec : ChangeSpec := { name := "movesBring", fn := fun _ => fun
  | [d1, d2, d3, d4] => { results := [.lit (.bool true)], args := [d1, d2, d3, d4] }
  | _ => none }
def movesBringRow : OpenClaim := { program := "ytlhjhjkfnmeapaa", sum := "9efcf3929078cad687e82816e570d88c963861047664a90396bd3666a024503c", func := "oxbow/oxbowlaw09.MovesBring", spec := "movesBring", unfollowed := true, recurses := true, apart := false }
def MovesBringSaid : Prop := movesBringRow.holds Try.pinned (OpenSpec.ofChange movesBringSpec)

/-- ITS FALSE NEIGHBOUR: 'it returns false'. Refute it at one input. -/
def movesBringWrong : ChangeSpec := { name := "movesBring", fn := fun _ => fun
  | [d1, d2, d3, d4] => { results := [.lit (.bool false)], args := [d1, d2, d3, d4] }
  | _ => none }
def MovesBringWrongFalsely : Prop := movesBringRow.holds Try.pinned (OpenSpec.ofChange movesBringWrong)

/-- 'oxbowlaw09.MovesFew': WHATEVER THE INPUT: true; the input reads as it did. -/
def movesFewSpec : ChangeSpec := { name := "movesFew", fn := fun _ => fun
  | [d1, d2, d3] => { results := [.lit (.bool true)], args := [d1, d2, d3] }
  | _ => none }
def movesFewRow : OpenClaim := { program := "ytlhjhjkfnmeapaa", sum := "9efcf3929078cad687e82816e570d88c963861047664a90396bd3666a024503c", func := "oxbow/oxbowlaw09.MovesFew", spec := "movesFew", unfollowed := true, recurses := true, apart := false }
def MovesFewSaid : Prop := movesFewRow.holds Try.pinned (OpenSpec.ofChange movesFewSpec)

/-- ITS FALSE NEIGHBOUR: 'it returns false'. Refute it at one input. -/
def movesFewWrong : ChangeSpec := { name := "movesFew", fn := fun _ => fun
  | [d1, d2, d3] => { results := [.lit (.bool false)], args := [d1, d2, d3] }
  | _ => none }
def MovesFewWrongFalsely : Prop := movesFewRow.holds Try.pinned (OpenSpec.ofChange movesFewWrong)

/-- 'oxbowlaw09.MovesKnown': WHATEVER THE INPUT: true; the input reads as it did. -/
def movesKnownSpec : ChangeSpec := { name := "movesKnown", fn := fun _ => fun
  | [] => { results := [.lit (.bool true)], args := [] }
  | _ => none }
def movesKnownRow : OpenClaim := { program := "ytlhjhjkfnmeapaa", sum := "9efcf3929078cad687e82816e570d88c963861047664a90396bd3666a024503c", func := "oxbow/oxbowlaw09.MovesKnown", spec := "movesKnown", unfollowed := true, recurses := true, apart := false }
def MovesKnownSaid : Prop := movesKnownRow.holds Try.pinned (OpenSpec.ofChange movesKnownSpec)

/-- ITS FALSE NEIGHBOUR: 'it returns false'. Refute it at one input. -/
def movesKnownWrong : ChangeSpec := { name := "movesKnown", fn := fun _ => fun
  | [] => { results := [.lit (.bool false)], args := [] }
  | _ => none }
def MovesKnownWrongFalsely : Prop := movesKnownRow.holds Try.pinned (OpenSpec.ofChange movesKnownWrong)

/-- 'oxbowlaw21.GraphTasks': WHATEVER THE INPUT: true; the input reads as it did. -/
def graphTasksSpec : ChangeSpec := { name := "graphTasks", fn := fun _ => fun
  | [d1, d2] => { results := [.lit (.bool true)], args := [d1, d2] }
  | _ => none }
def graphTasksRow : OpenClaim := { program := "ytlhjhjkfnmeapaa", sum := "9efcf3929078cad687e82816e570d88c963861047664a90396bd3666a024503c", func := "oxbow/oxbowlaw21.GraphTasks", spec := "graphTasks", unfollowed := true, recurses := true, apart := false }
def GraphTasksSaid : Prop := graphTasksRow.holds Try.pinned (OpenSpec.ofChange graphTasksSpec)

/-- ITS FALSE NEIGHBOUR: 'it returns false'. Refute it at one input. -/
def graphTasksWrong : ChangeSpec := { name := "graphTasks", fn := fun _ => fun
  | [d1, d2] => { results := [.lit (.bool false)], args := [d1, d2] }
  | _ => none }
def GraphTasksWrongFalsely : Prop := graphTasksRow.holds Try.pinned (OpenSpec.ofChange graphTasksWrong)

/-- 'oxbowlaw21.GraphEdges': WHATEVER THE INPUT: true; the input reads as it did. -/
def graphEdgesSpec : ChangeSpec := { name := "graphEdges", fn := fun _ => fun
  | [d1, d2, d3] => { results := [.lit (.bool true)], args := [d1, d2, d3] }
  | _ => none }
def graphEdgesRow : OpenClaim := { program := "ytlhjhjkfnmeapaa", sum := "9efcf3929078cad687e82816e570d88c963861047664a90396bd3666a024503c", func := "oxbow/oxbowlaw21.GraphEdges", spec := "graphEdges", unfollowed := true, recurses := true, apart := false }
def GraphEdgesSaid : Prop := graphEdgesRow.holds Try.pinned (OpenSpec.ofChange graphEdgesSpec)

/-- ITS FALSE NEIGHBOUR: 'it returns false'. Refute it at one input. -/
def graphEdgesWrong : ChangeSpec := { name := "graphEdges", fn := fun _ => fun
  | [d1, d2, d3] => { results := [.lit (.bool false)], args := [d1, d2, d3] }
  | _ => none }
def GraphEdgesWrongFalsely : Prop := graphEdgesRow.holds Try.pinned (OpenSpec.ofChange graphEdgesWrong)

/-- 'oxbowlaw21.GraphNumbers': WHATEVER THE INPUT: true; the input reads as it did. -/
def graphNumbersSpec : ChangeSpec := { name := "graphNumbers", fn := fun _ => fun
  | [d1, d2] => { results := [.lit (.bool true)], args := [d1, d2] }
  | _ => none }
def graphNumbersRow : OpenClaim := { program := "ytlhjhjkfnmeapaa", sum := "9efcf3929078cad687e82816e570d88c963861047664a90396bd3666a024503c", func := "oxbow/oxbowlaw21.GraphNumbers", spec := "graphNumbers", unfollowed := true, recurses := true, apart := false }
def GraphNumbersSaid : Prop := graphNumbersRow.holds Try.pinned (OpenSpec.ofChange graphNumbersSpec)

/-- ITS FALSE NEIGHBOUR: 'it returns false'. Refute it at one input. -/
def graphNumbersWrong : ChangeSpec := { name := "graphNumbers", fn := fun _ => fun
  | [d1, d2] => { results := [.lit (.bool false)], args := [d1, d2] }
  | _ => none }
def GraphNumbersWrongFalsely : Prop := graphNumbersRow.holds Try.pinned (OpenSpec.ofChange graphNumbersWrong)

/-- 'oxbowlaw21.GraphKnown': WHATEVER THE INPUT: true; the input reads as it did. -/
def graphKnownSpec : ChangeSpec := { name := "graphKnown", fn := fun _ => fun
  | [] => { results := [.lit (.bool true)], args := [] }
  | _ => none }
def graphKnownRow : OpenClaim := { program := "ytlhjhjkfnmeapaa", sum := "9efcf3929078cad687e82816e570d88c963861047664a90396bd3666a024503c", func := "oxbow/oxbowlaw21.GraphKnown", spec := "graphKnown", unfollowed := true, recurses := true, apart := false }
def GraphKnownSaid : Prop := graphKnownRow.holds Try.pinned (OpenSpec.ofChange graphKnownSpec)

/-- ITS FALSE NEIGHBOUR: 'it returns false'. Refute it at one input. -/
def graphKnownWrong : ChangeSpec := { name := "graphKnown", fn := fun _ => fun
  | [] => { results := [.lit (.bool false)], args := [] }
  | _ => none }
def GraphKnownWrongFalsely : Prop := graphKnownRow.holds Try.pinned (OpenSpec.ofChange graphKnownWrong)

/-- 'oxbowlaw21.GraphAll': WHATEVER THE INPUT: true; the input reads as it did. -/
def graphAllSpec : ChangeSpec := { name := "graphAll", fn := fun _ => fun
  | [d1, d2] => { results := [.lit (.bool true)], args := [d1, d2] }
  | _ => none }
def graphAllRow : OpenClaim := { program := "ytlhjhjkfnmeapaa", sum := "9efcf3929078cad687e82816e570d88c963861047664a90396bd3666a024503c", func := "oxbow/oxbowlaw21.GraphAll", spec := "graphAll", unfollowed := true, recurses := true, apart := false }
def GraphAllSaid : Prop := graphAllRow.holds Try.pinned (OpenSpec.ofChange graphAllSpec)

/-- ITS FALSE NEIGHBOUR: 'it returns false'. Refute it at one input. -/
def graphAllWrong : ChangeSpec := { name := "graphAll", fn := fun _ => fun
  | [d1, d2] => { results := [.lit (.bool false)], args := [d1, d2] }
  | _ => none }
def GraphAllWrongFalsely : Prop := graphAllRow.holds Try.pinned (OpenSpec.ofChange graphAllWrong)

/-- 'oxbowlaw21.GraphRises': WHATEVER THE INPUT: true; the input reads as it did. -/
def graphRisesSpec : ChangeSpec := { name := "graphRises", fn := fun _ => fun
  | [d1, d2] => { results := [.lit (.bool true)], args := [d1, d2] }
  | _ => none }
def graphRisesRow : OpenClaim := { program := "ytlhjhjkfnmeapaa", sum := "9efcf3929078cad687e82816e570d88c963861047664a90396bd3666a024503c", func := "oxbow/oxbowlaw21.GraphRises", spec := "graphRises", unfollowed := true, recurses := true, apart := false }
def GraphRisesSaid : Prop := graphRisesRow.holds Try.pinned (OpenSpec.ofChange graphRisesSpec)

/-- ITS FALSE NEIGHBOUR: 'it returns false'. Refute it at one input. -/
def graphRisesWrong : ChangeSpec := { name := "graphRises", fn := fun _ => fun
  | [d1, d2] => { results := [.lit (.bool false)], args := [d1, d2] }
  | _ => none }
def GraphRisesWrongFalsely : Prop := graphRisesRow.holds Try.pinned (OpenSpec.ofChange graphRisesWrong)

/- THE SECOND FORM. 'bulk': how many values and letters a reading holds, each counted each time it is reached (what is shared counts as often as it is met; a slice's spare places count too). A statement '..UptoSaid' is the law's where the arguments, and the package variables that the reading takes, are together of bulk at most 1048576: NARROWER than '..Said'. Prove '..Said' where nothing that the law and all that it calls make is longer than what came in: it says more and counts as full. Else prove '..UptoSaid'. A law counts once. -/
mutual
def uptoBulk {H : Type} : DataW H → Nat
  | .lit (.string bytes) => bytes.length + 1
  | .lit _ => 1
  | .nil => 1
  | .ptr d => uptoBulk d + 1
  | .slice elems spare => uptoBulkAll elems + uptoBulkAll spare + 1
  | .agg parts => uptoBulkAll parts + 1
  | .iface _ d => uptoBulk d + 1
  | .map entries => uptoBulkEntries entries + 1
  | .held _ => 1
def uptoBulkAll {H : Type} : List (DataW H) → Nat
  | [] => 0
  | d :: r => uptoBulk d + uptoBulkAll r
def uptoBulkEntries {H : Type} : List (Lit × DataW H) → Nat
  | [] => 0
  | x :: r => uptoBulkEntry x + uptoBulkEntries r
def uptoBulkEntry {H : Type} : Lit × DataW H → Nat
  | (.string bytes, d) => bytes.length + uptoBulk d + 1
  | (_, d) => uptoBulk d + 1
 end
def uptoSmall : (H : Type) → List (DataW H) → Bool := fun _ ds => decide (uptoBulkAll ds ≤ 1048576)
def OpenSpec.upto (s : _root_.Go.ChangeSpec) : _root_.Go.OpenSpec := { _root_.Go.OpenSpec.ofChange s with cond := some uptoSmall }

/-- 'oxbowlaw09.MovesPlans', WHERE WHAT IT READS IS OF BULK AT MOST 1048576: true; the input reads as it did. -/
def movesPlansUptoRow : OpenClaim := { program := "ytlhjhjkfnmeapaa", sum := "9efcf3929078cad687e82816e570d88c963861047664a90396bd3666a024503c", func := "oxbow/oxbowlaw09.MovesPlans", spec := "movesPlans", unfollowed := true, recurses := true, apart := false, narrowed := true }
def MovesPlansUptoSaid : Prop := movesPlansUptoRow.holds Try.pinned (OpenSpec.upto movesPlansSpec)

/-- 'oxbowlaw09.MovesBring', WHERE WHAT IT READS IS OF BULK AT MOST 1048576: true; the input reads as it did. -/
def movesBringUptoRow : OpenClaim := { program := "ytlhjhjkfnmeapaa", sum := "9efcf3929078cad687e82816e570d88c963861047664a90396bd3666a024503c", func := "oxbow/oxbowlaw09.MovesBring", spec := "movesBring", unfollowed := true, recurses := true, apart := false, narrowed := true }
def MovesBringUptoSaid : Prop := movesBringUptoRow.holds Try.pinned (OpenSpec.upto movesBringSpec)

/-- 'oxbowlaw09.MovesFew', WHERE WHAT IT READS IS OF BULK AT MOST 1048576: true; the input reads as it did. -/
def movesFewUptoRow : OpenClaim := { program := "ytlhjhjkfnmeapaa", sum := "9efcf3929078cad687e82816e570d88c963861047664a90396bd3666a024503c", func := "oxbow/oxbowlaw09.MovesFew", spec := "movesFew", unfollowed := true, recurses := true, apart := false, narrowed := true }
def MovesFewUptoSaid : Prop := movesFewUptoRow.holds Try.pinned (OpenSpec.upto movesFewSpec)

/-- 'oxbowlaw09.MovesKnown', WHERE WHAT IT READS IS OF BULK AT MOST 1048576: true; the input reads as it did. -/
def movesKnownUptoRow : OpenClaim := { program := "ytlhjhjkfnmeapaa", sum := "9efcf3929078cad687e82816e570d88c963861047664a90396bd3666a024503c", func := "oxbow/oxbowlaw09.MovesKnown", spec := "movesKnown", unfollowed := true, recurses := true, apart := false, narrowed := true }
def MovesKnownUptoSaid : Prop := movesKnownUptoRow.holds Try.pinned (OpenSpec.upto movesKnownSpec)

/-- 'oxbowlaw21.GraphTasks', WHERE WHAT IT READS IS OF BULK AT MOST 1048576: true; the input reads as it did. -/
def graphTasksUptoRow : OpenClaim := { program := "ytlhjhjkfnmeapaa", sum := "9efcf3929078cad687e82816e570d88c963861047664a90396bd3666a024503c", func := "oxbow/oxbowlaw21.GraphTasks", spec := "graphTasks", unfollowed := true, recurses := true, apart := false, narrowed := true }
def GraphTasksUptoSaid : Prop := graphTasksUptoRow.holds Try.pinned (OpenSpec.upto graphTasksSpec)

/-- 'oxbowlaw21.GraphEdges', WHERE WHAT IT READS IS OF BULK AT MOST 1048576: true; the input reads as it did. -/
def graphEdgesUptoRow : OpenClaim := { program := "ytlhjhjkfnmeapaa", sum := "9efcf3929078cad687e82816e570d88c963861047664a90396bd3666a024503c", func := "oxbow/oxbowlaw21.GraphEdges", spec := "graphEdges", unfollowed := true, recurses := true, apart := false, narrowed := true }
def GraphEdgesUptoSaid : Prop := graphEdgesUptoRow.holds Try.pinned (OpenSpec.upto graphEdgesSpec)

/-- 'oxbowlaw21.GraphNumbers', WHERE WHAT IT READS IS OF BULK AT MOST 1048576: true; the input reads as it did. -/
def graphNumbersUptoRow : OpenClaim := { program := "ytlhjhjkfnmeapaa", sum := "9efcf3929078cad687e82816e570d88c963861047664a90396bd3666a024503c", func := "oxbow/oxbowlaw21.GraphNumbers", spec := "graphNumbers", unfollowed := true, recurses := true, apart := false, narrowed := true }
def GraphNumbersUptoSaid : Prop := graphNumbersUptoRow.holds Try.pinned (OpenSpec.upto graphNumbersSpec)

/-- 'oxbowlaw21.GraphKnown', WHERE WHAT IT READS IS OF BULK AT MOST 1048576: true; the input reads as it did. -/
def graphKnownUptoRow : OpenClaim := { program := "ytlhjhjkfnmeapaa", sum := "9efcf3929078cad687e82816e570d88c963861047664a90396bd3666a024503c", func := "oxbow/oxbowlaw21.GraphKnown", spec := "graphKnown", unfollowed := true, recurses := true, apart := false, narrowed := true }
def GraphKnownUptoSaid : Prop := graphKnownUptoRow.holds Try.pinned (OpenSpec.upto graphKnownSpec)

/-- 'oxbowlaw21.GraphAll', WHERE WHAT IT READS IS OF BULK AT MOST 1048576: true; the input reads as it did. -/
def graphAllUptoRow : OpenClaim := { program := "ytlhjhjkfnmeapaa", sum := "9efcf3929078cad687e82816e570d88c963861047664a90396bd3666a024503c", func := "oxbow/oxbowlaw21.GraphAll", spec := "graphAll", unfollowed := true, recurses := true, apart := false, narrowed := true }
def GraphAllUptoSaid : Prop := graphAllUptoRow.holds Try.pinned (OpenSpec.upto graphAllSpec)

/-- 'oxbowlaw21.GraphRises', WHERE WHAT IT READS IS OF BULK AT MOST 1048576: true; the input reads as it did. -/
def graphRisesUptoRow : OpenClaim := { program := "ytlhjhjkfnmeapaa", sum := "9efcf3929078cad687e82816e570d88c963861047664a90396bd3666a024503c", func := "oxbow/oxbowlaw21.GraphRises", spec := "graphRises", unfollowed := true, recurses := true, apart := false, narrowed := true }
def GraphRisesUptoSaid : Prop := graphRisesUptoRow.holds Try.pinned (OpenSpec.upto graphRisesSpec)

end Rows
end Go.Proofs.Ytlhjhjkfnmeapaa
