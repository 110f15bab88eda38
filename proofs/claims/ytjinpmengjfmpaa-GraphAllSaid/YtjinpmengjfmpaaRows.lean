/-
  No cell of these rows narrows 'for every input' (looked for: loops, veiled, ifaces, maps, wideKeys, modest, calm, conditions, laid).
  DERIVED. THE GIVEN ROWS OF THIS SEAT. 12 by the template 'for every input the law returns true; each argument reads behind the call as it read before'; 0 by the template 'total and deterministic' (their statements: YtjinpmengjfmpaaTotals.lean).
  GIVEN WITH THE SEED: the statements are not yours to turn. If you find one false, say at which input.
  Laid BY PROGRAM, IN A SANDBOX (cutbox-rows.mjs): the forced cells as the released guide's own fill.sh prints them over the translation 0f291f7b6268c660… (all of the seat's roots in one cut). By AI agents, Wed Nov 11 2026. No macro, syntax, notation, axiom, sorry.
-/
import Derived.Test.YtjinpmengjfmpaaChecked
import GoSem.Claim
import GoSem.ClaimJoined
import GoSem.ClaimMapViews
import Derived.JoinedTies
import Derived.KernelRfl
namespace Go.Proofs.Ytjinpmengjfmpaa
/- THE CELL 'sum', in the pinned program and in every row, IS THE sha256 OF THE DUMP (.gsa) THAT YtjinpmengjfmpaaProg.lean LOADS. Nothing in Lean hashes anything: it is a label: what it is worth is what the hold of that sum in a sandbox is worth. -/
noncomputable def Try.pinned : Pinned := { name := "ytjinpmengjfmpaa", sum := "0f291f7b6268c660af5f2f0d0bc611660b1ad2cde2f645cfa7ef96fe377fe2fe", checked := Try.checked }
namespace Rows
def none {H : Type} : Left H := { results := [], args := [] }

/-- 'oxbowlaw21.GraphTasks': WHATEVER THE INPUT: true; the input reads as it did. -/
def graphTasksSpec : ChangeSpec := { name := "graphTasks", fn := fun _ => fun
  | [d1, d2] => { results := [.lit (.bool true)], args := [d1, d2] }
  | _ => none }
def graphTasksRow : OpenClaim := { program := "ytjinpmengjfmpaa", sum := "0f291f7b6268c660af5f2f0d0bc611660b1ad2cde2f645cfa7ef96fe377fe2fe", func := "oxbow/oxbowlaw21.GraphTasks", spec := "graphTasks", unfollowed := true, recurses := true, apart := false }
def GraphTasksSaid : Prop := graphTasksRow.holds Try.pinned (OpenSpec.ofChange graphTasksSpec)

/-- ITS FALSE NEIGHBOUR: 'it returns false'. Refute it at one input. -/
def graphTasksWrong : ChangeSpec := { name := "graphTasks", fn := fun _ => fun
  | [d1, d2] => { results := [.lit (.bool false)], args := [d1, d2] }
  | _ => none }
def GraphTasksWrongFalsely : Prop := graphTasksRow.holds Try.pinned (OpenSpec.ofChange graphTasksWrong)

/-- 'oxbowlaw21.GraphEdges': WHATEVER THE INPUT: true; the input reads as it did. -/
def graphEdgesSpec : ChangeSpec := { name := "graphEdges", fn := fun _ => fun
  | [d1, d2, d3] => { results := [.lit (.bool true)], args := [d1, d2, d3] }
  | _ => none }
def graphEdgesRow : OpenClaim := { program := "ytjinpmengjfmpaa", sum := "0f291f7b6268c660af5f2f0d0bc611660b1ad2cde2f645cfa7ef96fe377fe2fe", func := "oxbow/oxbowlaw21.GraphEdges", spec := "graphEdges", unfollowed := true, recurses := true, apart := false }
def GraphEdgesSaid : Prop := graphEdgesRow.holds Try.pinned (OpenSpec.ofChange graphEdgesSpec)

/-- ITS FALSE NEIGHBOUR: 'it returns false'. Refute it at one input. -/
def graphEdgesWrong : ChangeSpec := { name := "graphEdges", fn := fun _ => fun
  | [d1, d2, d3] => { results := [.lit (.bool false)], args := [d1, d2, d3] }
  | _ => none }
def GraphEdgesWrongFalsely : Prop := graphEdgesRow.holds Try.pinned (OpenSpec.ofChange graphEdgesWrong)

/-- 'oxbowlaw21.GraphNumbers': WHATEVER THE INPUT: true; the input reads as it did. -/
def graphNumbersSpec : ChangeSpec := { name := "graphNumbers", fn := fun _ => fun
  | [d1, d2] => { results := [.lit (.bool true)], args := [d1, d2] }
  | _ => none }
def graphNumbersRow : OpenClaim := { program := "ytjinpmengjfmpaa", sum := "0f291f7b6268c660af5f2f0d0bc611660b1ad2cde2f645cfa7ef96fe377fe2fe", func := "oxbow/oxbowlaw21.GraphNumbers", spec := "graphNumbers", unfollowed := true, recurses := true, apart := false }
def GraphNumbersSaid : Prop := graphNumbersRow.holds Try.pinned (OpenSpec.ofChange graphNumbersSpec)

/-- ITS FALSE NEIGHBOUR: 'it returns false'. Refute it at one input. -/
def graphNumbersWrong : ChangeSpec := { name := "graphNumbers", fn := fun _ => fun
  | [d1, d2] => { results := [.lit (.bool false)], args := [d1, d2] }
  | _ => none }
def GraphNumbersWrongFalsely : Prop := graphNumbersRow.holds Try.pinned (OpenSpec.ofChange graphNumbersWrong)

/-- 'oxbowlaw21.GraphKnown': WHATEVER THE INPUT: true; the input reads as it did. -/
def graphKnownSpec : ChangeSpec := { name := "graphKnown", fn := fun _ => fun
  | [] => { results := [.lit (.bool true)], args := [] }
  | _ => none }
def graphKnownRow : OpenClaim := { program := "ytjinpmengjfmpaa", sum := "0f291f7b6268c660af5f2f0d0bc611660b1ad2cde2f645cfa7ef96fe377fe2fe", func := "oxbow/oxbowlaw21.GraphKnown", spec := "graphKnown", unfollowed := true, recurses := true, apart := false }
def GraphKnownSaid : Prop := graphKnownRow.holds Try.pinned (OpenSpec.ofChange graphKnownSpec)

/-- ITS FALSE NEIGHBOUR: 'it returns false'. Refute it at one input. -/
def graphKnownWrong : ChangeSpec := { name := "graphKnown", fn := fun _ => fun
  | [] => { results := [.lit (.bool false)], args := [] }
  | _ => none }
def GraphKnownWrongFalsely : Prop := graphKnownRow.holds Try.pinned (OpenSpec.ofChange graphKnownWrong)

/-- 'oxbowlaw05.SpecChecks': WHATEVER THE INPUT: true; the input reads as it did. -/
def specChecksSpec : ChangeSpec := { name := "specChecks", fn := fun _ => fun
  | [d] => { results := [.lit (.bool true)], args := [d] }
  | _ => none }
def specChecksRow : OpenClaim := { program := "ytjinpmengjfmpaa", sum := "0f291f7b6268c660af5f2f0d0bc611660b1ad2cde2f645cfa7ef96fe377fe2fe", func := "oxbow/oxbowlaw05.SpecChecks", spec := "specChecks", unfollowed := true, recurses := true, apart := false }
def SpecChecksSaid : Prop := specChecksRow.holds Try.pinned (OpenSpec.ofChange specChecksSpec)

/-- ITS FALSE NEIGHBOUR: 'it returns false'. Refute it at one input. -/
def specChecksWrong : ChangeSpec := { name := "specChecks", fn := fun _ => fun
  | [d] => { results := [.lit (.bool false)], args := [d] }
  | _ => none }
def SpecChecksWrongFalsely : Prop := specChecksRow.holds Try.pinned (OpenSpec.ofChange specChecksWrong)

/-- 'oxbowlaw05.SpecOrders': WHATEVER THE INPUT: true; the input reads as it did. -/
def specOrdersSpec : ChangeSpec := { name := "specOrders", fn := fun _ => fun
  | [d] => { results := [.lit (.bool true)], args := [d] }
  | _ => none }
def specOrdersRow : OpenClaim := { program := "ytjinpmengjfmpaa", sum := "0f291f7b6268c660af5f2f0d0bc611660b1ad2cde2f645cfa7ef96fe377fe2fe", func := "oxbow/oxbowlaw05.SpecOrders", spec := "specOrders", unfollowed := true, recurses := true, apart := false }
def SpecOrdersSaid : Prop := specOrdersRow.holds Try.pinned (OpenSpec.ofChange specOrdersSpec)

/-- ITS FALSE NEIGHBOUR: 'it returns false'. Refute it at one input. -/
def specOrdersWrong : ChangeSpec := { name := "specOrders", fn := fun _ => fun
  | [d] => { results := [.lit (.bool false)], args := [d] }
  | _ => none }
def SpecOrdersWrongFalsely : Prop := specOrdersRow.holds Try.pinned (OpenSpec.ofChange specOrdersWrong)

/-- 'oxbowlaw05.SpecRoots': WHATEVER THE INPUT: true; the input reads as it did. -/
def specRootsSpec : ChangeSpec := { name := "specRoots", fn := fun _ => fun
  | [d] => { results := [.lit (.bool true)], args := [d] }
  | _ => none }
def specRootsRow : OpenClaim := { program := "ytjinpmengjfmpaa", sum := "0f291f7b6268c660af5f2f0d0bc611660b1ad2cde2f645cfa7ef96fe377fe2fe", func := "oxbow/oxbowlaw05.SpecRoots", spec := "specRoots", unfollowed := true, recurses := true, apart := false }
def SpecRootsSaid : Prop := specRootsRow.holds Try.pinned (OpenSpec.ofChange specRootsSpec)

/-- ITS FALSE NEIGHBOUR: 'it returns false'. Refute it at one input. -/
def specRootsWrong : ChangeSpec := { name := "specRoots", fn := fun _ => fun
  | [d] => { results := [.lit (.bool false)], args := [d] }
  | _ => none }
def SpecRootsWrongFalsely : Prop := specRootsRow.holds Try.pinned (OpenSpec.ofChange specRootsWrong)

/-- 'oxbowlaw05.SpecTells': WHATEVER THE INPUT: true; the input reads as it did. -/
def specTellsSpec : ChangeSpec := { name := "specTells", fn := fun _ => fun
  | [d1, d2] => { results := [.lit (.bool true)], args := [d1, d2] }
  | _ => none }
def specTellsRow : OpenClaim := { program := "ytjinpmengjfmpaa", sum := "0f291f7b6268c660af5f2f0d0bc611660b1ad2cde2f645cfa7ef96fe377fe2fe", func := "oxbow/oxbowlaw05.SpecTells", spec := "specTells", unfollowed := true, recurses := true, apart := false }
def SpecTellsSaid : Prop := specTellsRow.holds Try.pinned (OpenSpec.ofChange specTellsSpec)

/-- ITS FALSE NEIGHBOUR: 'it returns false'. Refute it at one input. -/
def specTellsWrong : ChangeSpec := { name := "specTells", fn := fun _ => fun
  | [d1, d2] => { results := [.lit (.bool false)], args := [d1, d2] }
  | _ => none }
def SpecTellsWrongFalsely : Prop := specTellsRow.holds Try.pinned (OpenSpec.ofChange specTellsWrong)

/-- 'oxbowlaw05.SpecTurned': WHATEVER THE INPUT: true; the input reads as it did. -/
def specTurnedSpec : ChangeSpec := { name := "specTurned", fn := fun _ => fun
  | [d1, d2] => { results := [.lit (.bool true)], args := [d1, d2] }
  | _ => none }
def specTurnedRow : OpenClaim := { program := "ytjinpmengjfmpaa", sum := "0f291f7b6268c660af5f2f0d0bc611660b1ad2cde2f645cfa7ef96fe377fe2fe", func := "oxbow/oxbowlaw05.SpecTurned", spec := "specTurned", unfollowed := true, recurses := true, apart := false }
def SpecTurnedSaid : Prop := specTurnedRow.holds Try.pinned (OpenSpec.ofChange specTurnedSpec)

/-- ITS FALSE NEIGHBOUR: 'it returns false'. Refute it at one input. -/
def specTurnedWrong : ChangeSpec := { name := "specTurned", fn := fun _ => fun
  | [d1, d2] => { results := [.lit (.bool false)], args := [d1, d2] }
  | _ => none }
def SpecTurnedWrongFalsely : Prop := specTurnedRow.holds Try.pinned (OpenSpec.ofChange specTurnedWrong)

/-- 'oxbowlaw05.SpecKnown': WHATEVER THE INPUT: true; the input reads as it did. -/
def specKnownSpec : ChangeSpec := { name := "specKnown", fn := fun _ => fun
  | [] => { results := [.lit (.bool true)], args := [] }
  | _ => none }
def specKnownRow : OpenClaim := { program := "ytjinpmengjfmpaa", sum := "0f291f7b6268c660af5f2f0d0bc611660b1ad2cde2f645cfa7ef96fe377fe2fe", func := "oxbow/oxbowlaw05.SpecKnown", spec := "specKnown", unfollowed := true, recurses := true, apart := false }
def SpecKnownSaid : Prop := specKnownRow.holds Try.pinned (OpenSpec.ofChange specKnownSpec)

/-- ITS FALSE NEIGHBOUR: 'it returns false'. Refute it at one input. -/
def specKnownWrong : ChangeSpec := { name := "specKnown", fn := fun _ => fun
  | [] => { results := [.lit (.bool false)], args := [] }
  | _ => none }
def SpecKnownWrongFalsely : Prop := specKnownRow.holds Try.pinned (OpenSpec.ofChange specKnownWrong)

/-- 'oxbowlaw21.GraphAll': WHATEVER THE INPUT: true; the input reads as it did. -/
def graphAllSpec : ChangeSpec := { name := "graphAll", fn := fun _ => fun
  | [d1, d2] => { results := [.lit (.bool true)], args := [d1, d2] }
  | _ => none }
def graphAllRow : OpenClaim := { program := "ytjinpmengjfmpaa", sum := "0f291f7b6268c660af5f2f0d0bc611660b1ad2cde2f645cfa7ef96fe377fe2fe", func := "oxbow/oxbowlaw21.GraphAll", spec := "graphAll", unfollowed := true, recurses := true, apart := false }
def GraphAllSaid : Prop := graphAllRow.holds Try.pinned (OpenSpec.ofChange graphAllSpec)

/-- ITS FALSE NEIGHBOUR: 'it returns false'. Refute it at one input. -/
def graphAllWrong : ChangeSpec := { name := "graphAll", fn := fun _ => fun
  | [d1, d2] => { results := [.lit (.bool false)], args := [d1, d2] }
  | _ => none }
def GraphAllWrongFalsely : Prop := graphAllRow.holds Try.pinned (OpenSpec.ofChange graphAllWrong)

/-- 'oxbowlaw21.GraphRises': WHATEVER THE INPUT: true; the input reads as it did. -/
def graphRisesSpec : ChangeSpec := { name := "graphRises", fn := fun _ => fun
  | [d1, d2] => { results := [.lit (.bool true)], args := [d1, d2] }
  | _ => none }
def graphRisesRow : OpenClaim := { program := "ytjinpmengjfmpaa", sum := "0f291f7b6268c660af5f2f0d0bc611660b1ad2cde2f645cfa7ef96fe377fe2fe", func := "oxbow/oxbowlaw21.GraphRises", spec := "graphRises", unfollowed := true, recurses := true, apart := false }
def GraphRisesSaid : Prop := graphRisesRow.holds Try.pinned (OpenSpec.ofChange graphRisesSpec)

/-- ITS FALSE NEIGHBOUR: 'it returns false'. Refute it at one input. -/
def graphRisesWrong : ChangeSpec := { name := "graphRises", fn := fun _ => fun
  | [d1, d2] => { results := [.lit (.bool false)], args := [d1, d2] }
  | _ => none }
def GraphRisesWrongFalsely : Prop := graphRisesRow.holds Try.pinned (OpenSpec.ofChange graphRisesWrong)

/- THE SECOND FORM. 'bulk': how many values and letters a reading holds, each counted each time it is reached (what is shared counts as often as it is met; a slice's spare places count too). A statement '..UptoSaid' is the law's where the arguments, and the package variables that the reading takes, are together of bulk at most 1048576: NARROWER than '..Said'. Prove '..Said' where nothing that the law and all that it calls make is longer than what came in: it says more and counts as full. Else prove '..UptoSaid'. A law counts once. -/
mutual
def uptoBulk {H : Type} : DataW H → Nat
  | .lit (.string bytes) => bytes.length + 1
  | .lit _ => 1
  | .nil => 1
  | .ptr d => uptoBulk d + 1
  | .slice elems spare => uptoBulkAll elems + uptoBulkAll spare + 1
  | .agg parts => uptoBulkAll parts + 1
  | .iface _ d => uptoBulk d + 1
  | .map entries => uptoBulkEntries entries + 1
  | .held _ => 1
def uptoBulkAll {H : Type} : List (DataW H) → Nat
  | [] => 0
  | d :: r => uptoBulk d + uptoBulkAll r
def uptoBulkEntries {H : Type} : List (Lit × DataW H) → Nat
  | [] => 0
  | x :: r => uptoBulkEntry x + uptoBulkEntries r
def uptoBulkEntry {H : Type} : Lit × DataW H → Nat
  | (.string bytes, d) => bytes.length + uptoBulk d + 1
  | (_, d) => uptoBulk d + 1
 end
def uptoSmall : (H : Type) → List (DataW H) → Bool := fun _ ds => decide (uptoBulkAll ds ≤ 1048576)
def OpenSpec.upto (s : _root_.Go.ChangeSpec) : _root_.Go.OpenSpec := { _root_.Go.OpenSpec.ofChange s with cond := some uptoSmall }

/-- 'oxbowlaw21.GraphTasks', WHERE WHAT IT READS IS OF BULK AT MOST 1048576: true; the input reads as it did. -/
def graphTasksUptoRow : OpenClaim := { program := "ytjinpmengjfmpaa", sum := "0f291f7b6268c660af5f2f0d0bc611660b1ad2cde2f645cfa7ef96fe377fe2fe", func := "oxbow/oxbowlaw21.GraphTasks", spec := "graphTasks", unfollowed := true, recurses := true, apart := false, narrowed := true }
def GraphTasksUptoSaid : Prop := graphTasksUptoRow.holds Try.pinned (OpenSpec.upto graphTasksSpec)

/-- 'oxbowlaw21.GraphEdges', WHERE WHAT IT READS IS OF BULK AT MOST 1048576: true; the input reads as it did. -/
def graphEdgesUptoRow : OpenClaim := { program := "ytjinpmengjfmpaa", sum := "0f291f7b6268c660af5f2f0d0bc611660b1ad2cde2f645cfa7ef96fe377fe2fe", func := "oxbow/oxbowlaw21.GraphEdges", spec := "graphEdges", unfollowed := true, recurses := true, apart := false, narrowed := true }
def GraphEdgesUptoSaid : Prop := graphEdgesUptoRow.holds Try.pinned (OpenSpec.upto graphEdgesSpec)

/-- 'oxbowlaw21.GraphNumbers', WHERE WHAT IT READS IS OF BULK AT MOST 1048576: true; the input reads as it did. -/
def graphNumbersUptoRow : OpenClaim := { program := "ytjinpmengjfmpaa", sum := "0f291f7b6268c660af5f2f0d0bc611660b1ad2cde2f645cfa7ef96fe377fe2fe", func := "oxbow/oxbowlaw21.GraphNumbers", spec := "graphNumbers", unfollowed := true, recurses := true, apart := false, narrowed := true }
def GraphNumbersUptoSaid : Prop := graphNumbersUptoRow.holds Try.pinned (OpenSpec.upto graphNumbersSpec)

/-- 'oxbowlaw21.GraphKnown', WHERE WHAT IT READS IS OF BULK AT MOST 1048576: true; the input reads as it did. -/
def graphKnownUptoRow : OpenClaim := { program := "ytjinpmengjfmpaa", sum := "0f291f7b6268c660af5f2f0d0bc611660b1ad2cde2f645cfa7ef96fe377fe2fe", func := "oxbow/oxbowlaw21.GraphKnown", spec := "graphKnown", unfollowed := true, recurses := true, apart := false, narrowed := true }
def GraphKnownUptoSaid : Prop := graphKnownUptoRow.holds Try.pinned (OpenSpec.upto graphKnownSpec)

/-- 'oxbowlaw05.SpecChecks', WHERE WHAT IT READS IS OF BULK AT MOST 1048576: true; the input reads as it did. -/
def specChecksUptoRow : OpenClaim := { program := "ytjinpmengjfmpaa", sum := "0f291f7b6268c660af5f2f0d0bc611660b1ad2cde2f645cfa7ef96fe377fe2fe", func := "oxbow/oxbowlaw05.SpecChecks", spec := "specChecks", unfollowed := true, recurses := true, apart := false, narrowed := true }
def SpecChecksUptoSaid : Prop := specChecksUptoRow.holds Try.pinned (OpenSpec.upto specChecksSpec)

/-- 'oxbowlaw05.SpecOrders', WHERE WHAT IT READS IS OF BULK AT MOST 1048576: true; the input reads as it did. -/
def specOrdersUptoRow : OpenClaim := { program := "ytjinpmengjfmpaa", sum := "0f291f7b6268c660af5f2f0d0bc611660b1ad2cde2f645cfa7ef96fe377fe2fe", func := "oxbow/oxbowlaw05.SpecOrders", spec := "specOrders", unfollowed := true, recurses := true, apart := false, narrowed := true }
def SpecOrdersUptoSaid : Prop := specOrdersUptoRow.holds Try.pinned (OpenSpec.upto specOrdersSpec)

/-- 'oxbowlaw05.SpecRoots', WHERE WHAT IT READS IS OF BULK AT MOST 1048576: true; the input reads as it did. -/
def specRootsUptoRow : OpenClaim := { program := "ytjinpmengjfmpaa", sum := "0f291f7b6268c660af5f2f0d0bc611660b1ad2cde2f645cfa7ef96fe377fe2fe", func := "oxbow/oxbowlaw05.SpecRoots", spec := "specRoots", unfollowed := true, recurses := true, apart := false, narrowed := true }
def SpecRootsUptoSaid : Prop := specRootsUptoRow.holds Try.pinned (OpenSpec.upto specRootsSpec)

/-- 'oxbowlaw05.SpecTells', WHERE WHAT IT READS IS OF BULK AT MOST 1048576: true; the input reads as it did. -/
def specTellsUptoRow : OpenClaim := { program := "ytjinpmengjfmpaa", sum := "0f291f7b6268c660af5f2f0d0bc611660b1ad2cde2f645cfa7ef96fe377fe2fe", func := "oxbow/oxbowlaw05.SpecTells", spec := "specTells", unfollowed := true, recurses := true, apart := false, narrowed := true }
def SpecTellsUptoSaid : Prop := specTellsUptoRow.holds Try.pinned (OpenSpec.upto specTellsSpec)

/-- 'oxbowlaw05.SpecTurned', WHERE WHAT IT READS IS OF BULK AT MOST 1048576: true; the input reads as it did. -/
def specTurnedUptoRow : OpenClaim := { program := "ytjinpmengjfmpaa", sum := "0f291f7b6268c660af5f2f0d0bc611660b1ad2cde2f645cfa7ef96fe377fe2fe", func := "oxbow/oxbowlaw05.SpecTurned", spec := "specTurned", unfollowed := true, recurses := true, apart := false, narrowed := true }
def SpecTurnedUptoSaid : Prop := specTurnedUptoRow.holds Try.pinned (OpenSpec.upto specTurnedSpec)

/-- 'oxbowlaw05.SpecKnown', WHERE WHAT IT READS IS OF BULK AT MOST 1048576: true; the input reads as it did. -/
def specKnownUptoRow : OpenClaim := { program := "ytjinpmengjfmpaa", sum := "0f291f7b6268c660af5f2f0d0bc611660b1ad2cde2f645cfa7ef96fe377fe2fe", func := "oxbow/oxbowlaw05.SpecKnown", spec := "specKnown", unfollowed := true, recurses := true, apart := false, narrowed := true }
def SpecKnownUptoSaid : Prop := specKnownUptoRow.holds Try.pinned (OpenSpec.upto specKnownSpec)

/-- 'oxbowlaw21.GraphAll', WHERE WHAT IT READS IS OF BULK AT MOST 1048576: true; the input reads as it did. -/
def graphAllUptoRow : OpenClaim := { program := "ytjinpmengjfmpaa", sum := "0f291f7b6268c660af5f2f0d0bc611660b1ad2cde2f645cfa7ef96fe377fe2fe", func := "oxbow/oxbowlaw21.GraphAll", spec := "graphAll", unfollowed := true, recurses := true, apart := false, narrowed := true }
def GraphAllUptoSaid : Prop := graphAllUptoRow.holds Try.pinned (OpenSpec.upto graphAllSpec)

/-- 'oxbowlaw21.GraphRises', WHERE WHAT IT READS IS OF BULK AT MOST 1048576: true; the input reads as it did. -/
def graphRisesUptoRow : OpenClaim := { program := "ytjinpmengjfmpaa", sum := "0f291f7b6268c660af5f2f0d0bc611660b1ad2cde2f645cfa7ef96fe377fe2fe", func := "oxbow/oxbowlaw21.GraphRises", spec := "graphRises", unfollowed := true, recurses := true, apart := false, narrowed := true }
def GraphRisesUptoSaid : Prop := graphRisesUptoRow.holds Try.pinned (OpenSpec.upto graphRisesSpec)

end Rows
end Go.Proofs.Ytjinpmengjfmpaa
