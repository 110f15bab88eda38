/-
  No cell of these rows narrows 'for every input' (looked for: loops, veiled, ifaces, maps, wideKeys, modest, calm, conditions, laid).
  DERIVED. THE GIVEN ROWS OF THIS SEAT. 8 by the template 'for every input the law returns true; each argument reads behind the call as it read before'; 0 by the template 'total and deterministic' (their statements: YtaodbjgcidkpkaaTotals.lean).
  GIVEN WITH THE SEED: the statements are not yours to turn. If you find one false, say at which input.
  Laid BY PROGRAM, IN A SANDBOX (cutbox-rows.mjs): the forced cells as the released guide's own fill.sh prints them over the translation 0b49a4c749052f0b… (all of the seat's roots in one cut). By AI agents, Wed Nov 11 2026. No macro, syntax, notation, axiom, sorry.
-/
import Derived.Test.YtaodbjgcidkpkaaChecked
import GoSem.Claim
import GoSem.ClaimJoined
import GoSem.ClaimMapViews
import Derived.JoinedTies
import Derived.KernelRfl
namespace Go.Proofs.Ytaodbjgcidkpkaa
/- THE CELL 'sum', in the pinned program and in every row, IS THE sha256 OF THE DUMP (.gsa) THAT YtaodbjgcidkpkaaProg.lean LOADS. Nothing in Lean hashes anything: it is a label: what it is worth is what the hold of that sum in a sandbox is worth. -/
noncomputable def Try.pinned : Pinned := { name := "ytaodbjgcidkpkaa", sum := "0b49a4c749052f0bc5d6b5500ee97230068450782e0596fe7bc4aec95c5acf52", checked := Try.checked }
namespace Rows
def none {H : Type} : Left H := { results := [], args := [] }

/-- 'oxbowlaw05.SpecTells': WHATEVER THE INPUT: true; the input reads as it did. -/
def specTellsSpec : ChangeSpec := { name := "specTells", fn := fun _ => fun
  | [d1, d2] => { results := [.lit (.bool true)], args := [d1, d2] }
  | _ => none }
def specTellsRow : OpenClaim := { program := "ytaodbjgcidkpkaa", sum := "0b49a4c749052f0bc5d6b5500ee97230068450782e0596fe7bc4aec95c5acf52", func := "oxbow/oxbowlaw05.SpecTells", spec := "specTells", unfollowed := true, recurses := true, apart := false }
def SpecTellsSaid : Prop := specTellsRow.holds Try.pinned (OpenSpec.ofChange specTellsSpec)

/-- ITS FALSE NEIGHBOUR: 'it returns false'. Refute it at one input. -/
def specTellsWrong : ChangeSpec := { name := "specTells", fn := fun _ => fun
  | [d1, d2] => { results := [.lit (.bool false)], args := [d1, d2] }
  | _ => none }
def SpecTellsWrongFalsely : Prop := specTellsRow.holds Try.pinned (OpenSpec.ofChange specTellsWrong)

/-- 'oxbowlaw05.SpecKnown': WHATEVER THE INPUT: true; the input reads as it did. -/
def specKnownSpec : ChangeSpec := { name := "specKnown", fn := fun _ => fun
  | [] => { results := [.lit (.bool true)], args := [] }
  | _ => none }
def specKnownRow : OpenClaim := { program := "ytaodbjgcidkpkaa", sum := "0b49a4c749052f0bc5d6b5500ee97230068450782e0596fe7bc4aec95c5acf52", func := "oxbow/oxbowlaw05.SpecKnown", spec := "specKnown", unfollowed := true, recurses := true, apart := false }
def SpecKnownSaid : Prop := specKnownRow.holds Try.pinned (OpenSpec.ofChange specKnownSpec)

/-- ITS FALSE NEIGHBOUR: 'it returns false'. Refute it at one input. -/
def specKnownWrong : ChangeSpec := { name := "specKnown", fn := fun _ => fun
  | [] => { results := [.lit (.bool false)], args := [] }
  | _ => none }
def SpecKnownWrongFalsely : Prop := specKnownRow.holds Try.pinned (OpenSpec.ofChange specKnownWrong)

/-- 'oxbowlaw06.FeedKeys': WHATEVER THE INPUT: true; the input reads as it did. -/
def feedKeysSpec : ChangeSpec := { name := "feedKeys", fn := fun _ => fun
  | [d] => { results := [.lit (.bool true)], args := [d] }
  | _ => none }
def feedKeysRow : OpenClaim := { program := "ytaodbjgcidkpkaa", sum := "0b49a4c749052f0bc5d6b5500ee97230068450782e0596fe7bc4aec95c5acf52", func := "oxbow/oxbowlaw06.FeedKeys", spec := "feedKeys", unfollowed := true, recurses := true, apart := false }
def FeedKeysSaid : Prop := feedKeysRow.holds Try.pinned (OpenSpec.ofChange feedKeysSpec)

/-- ITS FALSE NEIGHBOUR: 'it returns false'. Refute it at one input. -/
def feedKeysWrong : ChangeSpec := { name := "feedKeys", fn := fun _ => fun
  | [d] => { results := [.lit (.bool false)], args := [d] }
  | _ => none }
def FeedKeysWrongFalsely : Prop := feedKeysRow.holds Try.pinned (OpenSpec.ofChange feedKeysWrong)

/-- 'oxbowlaw06.FeedTells': WHATEVER THE INPUT: true; the input reads as it did. -/
def feedTellsSpec : ChangeSpec := { name := "feedTells", fn := fun _ => fun
  | [d1, d2] => { results := [.lit (.bool true)], args := [d1, d2] }
  | _ => none }
def feedTellsRow : OpenClaim := { program := "ytaodbjgcidkpkaa", sum := "0b49a4c749052f0bc5d6b5500ee97230068450782e0596fe7bc4aec95c5acf52", func := "oxbow/oxbowlaw06.FeedTells", spec := "feedTells", unfollowed := true, recurses := true, apart := false }
def FeedTellsSaid : Prop := feedTellsRow.holds Try.pinned (OpenSpec.ofChange feedTellsSpec)

/-- ITS FALSE NEIGHBOUR: 'it returns false'. Refute it at one input. -/
def feedTellsWrong : ChangeSpec := { name := "feedTells", fn := fun _ => fun
  | [d1, d2] => { results := [.lit (.bool false)], args := [d1, d2] }
  | _ => none }
def FeedTellsWrongFalsely : Prop := feedTellsRow.holds Try.pinned (OpenSpec.ofChange feedTellsWrong)

/-- 'oxbowlaw06.FeedApart': WHATEVER THE INPUT: true; the input reads as it did. -/
def feedApartSpec : ChangeSpec := { name := "feedApart", fn := fun _ => fun
  | [d1, d2, d3, d4] => { results := [.lit (.bool true)], args := [d1, d2, d3, d4] }
  | _ => none }
def feedApartRow : OpenClaim := { program := "ytaodbjgcidkpkaa", sum := "0b49a4c749052f0bc5d6b5500ee97230068450782e0596fe7bc4aec95c5acf52", func := "oxbow/oxbowlaw06.FeedApart", spec := "feedApart", unfollowed := true, recurses := true, apart := false }
def FeedApartSaid : Prop := feedApartRow.holds Try.pinned (OpenSpec.ofChange feedApartSpec)

/-- ITS FALSE NEIGHBOUR: 'it returns false'. Refute it at one input. -/
def feedApartWrong : ChangeSpec := { name := "feedApart", fn := fun _ => fun
  | [d1, d2, d3, d4] => { results := [.lit (.bool false)], args := [d1, d2, d3, d4] }
  | _ => none }
def FeedApartWrongFalsely : Prop := feedApartRow.holds Try.pinned (OpenSpec.ofChange feedApartWrong)

/-- 'oxbowlaw06.FeedTurns': WHATEVER THE INPUT: true; the input reads as it did. -/
def feedTurnsSpec : ChangeSpec := { name := "feedTurns", fn := fun _ => fun
  | [d1, d2] => { results := [.lit (.bool true)], args := [d1, d2] }
  | _ => none }
def feedTurnsRow : OpenClaim := { program := "ytaodbjgcidkpkaa", sum := "0b49a4c749052f0bc5d6b5500ee97230068450782e0596fe7bc4aec95c5acf52", func := "oxbow/oxbowlaw06.FeedTurns", spec := "feedTurns", unfollowed := true, recurses := true, apart := false }
def FeedTurnsSaid : Prop := feedTurnsRow.holds Try.pinned (OpenSpec.ofChange feedTurnsSpec)

/-- ITS FALSE NEIGHBOUR: 'it returns false'. Refute it at one input. -/
def feedTurnsWrong : ChangeSpec := { name := "feedTurns", fn := fun _ => fun
  | [d1, d2] => { results := [.lit (.bool false)], args := [d1, d2] }
  | _ => none }
def FeedTurnsWrongFalsely : Prop := feedTurnsRow.holds Try.pinned (OpenSpec.ofChange feedTurnsWrong)

/-- 'oxbowlaw06.FeedLess': WHATEVER THE INPUT: true; the input reads as it did. -/
def feedLessSpec : ChangeSpec := { name := "feedLess", fn := fun _ => fun
  | [d1, d2, d3, d4, d5] => { results := [.lit (.bool true)], args := [d1, d2, d3, d4, d5] }
  | _ => none }
def feedLessRow : OpenClaim := { program := "ytaodbjgcidkpkaa", sum := "0b49a4c749052f0bc5d6b5500ee97230068450782e0596fe7bc4aec95c5acf52", func := "oxbow/oxbowlaw06.FeedLess", spec := "feedLess", unfollowed := true, recurses := true, apart := false }
def FeedLessSaid : Prop := feedLessRow.holds Try.pinned (OpenSpec.ofChange feedLessSpec)

/-- ITS FALSE NEIGHBOUR: 'it returns false'. Refute it at one input. -/
def feedLessWrong : ChangeSpec := { name := "feedLess", fn := fun _ => fun
  | [d1, d2, d3, d4, d5] => { results := [.lit (.bool false)], args := [d1, d2, d3, d4, d5] }
  | _ => none }
def FeedLessWrongFalsely : Prop := feedLessRow.holds Try.pinned (OpenSpec.ofChange feedLessWrong)

/-- 'oxbowlaw06.FeedKnown': WHATEVER THE INPUT: true; the input reads as it did. -/
def feedKnownSpec : ChangeSpec := { name := "feedKnown", fn := fun _ => fun
  | [] => { results := [.lit (.bool true)], args := [] }
  | _ => none }
def feedKnownRow : OpenClaim := { program := "ytaodbjgcidkpkaa", sum := "0b49a4c749052f0bc5d6b5500ee97230068450782e0596fe7bc4aec95c5acf52", func := "oxbow/oxbowlaw06.FeedKnown", spec := "feedKnown", unfollowed := true, recurses := true, apart := false }
def FeedKnownSaid : Prop := feedKnownRow.holds Try.pinned (OpenSpec.ofChange feedKnownSpec)

/-- ITS FALSE NEIGHBOUR: 'it returns false'. Refute it at one input. -/
def feedKnownWrong : ChangeSpec := { name := "feedKnown", fn := fun _ => fun
  | [] => { results := [.lit (.bool false)], args := [] }
  | _ => none }
def FeedKnownWrongFalsely : Prop := feedKnownRow.holds Try.pinned (OpenSpec.ofChange feedKnownWrong)

/- THE SECOND FORM. 'bulk': how many values and letters a reading holds, each counted each time it is reached (what is shared counts as often as it is met; a slice's spare places count too). A statement '..UptoSaid' is the law's where the arguments, and the package variables that the reading takes, are together of bulk at most 1048576: NARROWER than '..Said'. Prove '..Said' where nothing that the law and all that it calls make is longer than what came in: it says more and counts as full. Else prove '..UptoSaid'. A law counts once. -/
mutual
def uptoBulk {H : Type} : DataW H → Nat
  | .lit (.string bytes) => bytes.length + 1
  | .lit _ => 1
  | .nil => 1
  | .ptr d => uptoBulk d + 1
  | .slice elems spare => uptoBulkAll elems + uptoBulkAll spare + 1
  | .agg parts => uptoBulkAll parts + 1
  | .iface _ d => uptoBulk d + 1
  | .map entries => uptoBulkEntries entries + 1
  | .held _ => 1
def uptoBulkAll {H : Type} : List (DataW H) → Nat
  | [] => 0
  | d :: r => uptoBulk d + uptoBulkAll r
def uptoBulkEntries {H : Type} : List (Lit × DataW H) → Nat
  | [] => 0
  | x :: r => uptoBulkEntry x + uptoBulkEntries r
def uptoBulkEntry {H : Type} : Lit × DataW H → Nat
  | (.string bytes, d) => bytes.length + uptoBulk d + 1
  | (_, d) => uptoBulk d + 1
 end
def uptoSmall : (H : Type) → List (DataW H) → Bool := fun _ ds => decide (uptoBulkAll ds ≤ 1048576)
def OpenSpec.upto (s : _root_.Go.ChangeSpec) : _root_.Go.OpenSpec := { _root_.Go.OpenSpec.ofChange s with cond := some uptoSmall }

/-- 'oxbowlaw05.SpecTells', WHERE WHAT IT READS IS OF BULK AT MOST 1048576: true; the input reads as it did. -/
def specTellsUptoRow : OpenClaim := { program := "ytaodbjgcidkpkaa", sum := "0b49a4c749052f0bc5d6b5500ee97230068450782e0596fe7bc4aec95c5acf52", func := "oxbow/oxbowlaw05.SpecTells", spec := "specTells", unfollowed := true, recurses := true, apart := false, narrowed := true }
def SpecTellsUptoSaid : Prop := specTellsUptoRow.holds Try.pinned (OpenSpec.upto specTellsSpec)

/-- 'oxbowlaw05.SpecKnown', WHERE WHAT IT READS IS OF BULK AT MOST 1048576: true; the input reads as it did. -/
def specKnownUptoRow : OpenClaim := { program := "ytaodbjgcidkpkaa", sum := "0b49a4c749052f0bc5d6b5500ee97230068450782e0596fe7bc4aec95c5acf52", func := "oxbow/oxbowlaw05.SpecKnown", spec := "specKnown", unfollowed := true, recurses := true, apart := false, narrowed := true }
def SpecKnownUptoSaid : Prop := specKnownUptoRow.holds Try.pinned (OpenSpec.upto specKnownSpec)

/-- 'oxbowlaw06.FeedKeys', WHERE WHAT IT READS IS OF BULK AT MOST 1048576: true; the input reads as it did. -/
def feedKeysUptoRow : OpenClaim := { program := "ytaodbjgcidkpkaa", sum := "0b49a4c749052f0bc5d6b5500ee97230068450782e0596fe7bc4aec95c5acf52", func := "oxbow/oxbowlaw06.FeedKeys", spec := "feedKeys", unfollowed := true, recurses := true, apart := false, narrowed := true }
def FeedKeysUptoSaid : Prop := feedKeysUptoRow.holds Try.pinned (OpenSpec.upto feedKeysSpec)

/-- 'oxbowlaw06.FeedTells', WHERE WHAT IT READS IS OF BULK AT MOST 1048576: true; the input reads as it did. -/
def feedTellsUptoRow : OpenClaim := { program := "ytaodbjgcidkpkaa", sum := "0b49a4c749052f0bc5d6b5500ee97230068450782e0596fe7bc4aec95c5acf52", func := "oxbow/oxbowlaw06.FeedTells", spec := "feedTells", unfollowed := true, recurses := true, apart := false, narrowed := true }
def FeedTellsUptoSaid : Prop := feedTellsUptoRow.holds Try.pinned (OpenSpec.upto feedTellsSpec)

/-- 'oxbowlaw06.FeedApart', WHERE WHAT IT READS IS OF BULK AT MOST 1048576: true; the input reads as it did. -/
def feedApartUptoRow : OpenClaim := { program := "ytaodbjgcidkpkaa", sum := "0b49a4c749052f0bc5d6b5500ee97230068450782e0596fe7bc4aec95c5acf52", func := "oxbow/oxbowlaw06.FeedApart", spec := "feedApart", unfollowed := true, recurses := true, apart := false, narrowed := true }
def FeedApartUptoSaid : Prop := feedApartUptoRow.holds Try.pinned (OpenSpec.upto feedApartSpec)

/-- 'oxbowlaw06.FeedTurns', WHERE WHAT IT READS IS OF BULK AT MOST 1048576: true; the input reads as it did. -/
def feedTurnsUptoRow : OpenClaim := { program := "ytaodbjgcidkpkaa", sum := "0b49a4c749052f0bc5d6b5500ee97230068450782e0596fe7bc4aec95c5acf52", func := "oxbow/oxbowlaw06.FeedTurns", spec := "feedTurns", unfollowed := true, recurses := true, apart := false, narrowed := true }
def FeedTurnsUptoSaid : Prop := feedTurnsUptoRow.holds Try.pinned (OpenSpec.upto feedTurnsSpec)

/-- 'oxbowlaw06.FeedLess', WHERE WHAT IT READS IS OF BULK AT MOST 1048576: true; the input reads as it did. -/
def feedLessUptoRow : OpenClaim := { program := "ytaodbjgcidkpkaa", sum := "0b49a4c749052f0bc5d6b5500ee97230068450782e0596fe7bc4aec95c5acf52", func := "oxbow/oxbowlaw06.FeedLess", spec := "feedLess", unfollowed := true, recurses := true, apart := false, narrowed := true }
def FeedLessUptoSaid : Prop := feedLessUptoRow.holds Try.pinned (OpenSpec.upto feedLessSpec)

/-- 'oxbowlaw06.FeedKnown', WHERE WHAT IT READS IS OF BULK AT MOST 1048576: true; the input reads as it did. -/
def feedKnownUptoRow : OpenClaim := { program := "ytaodbjgcidkpkaa", sum := "0b49a4c749052f0bc5d6b5500ee97230068450782e0596fe7bc4aec95c5acf52", func := "oxbow/oxbowlaw06.FeedKnown", spec := "feedKnown", unfollowed := true, recurses := true, apart := false, narrowed := true }
def FeedKnownUptoSaid : Prop := feedKnownUptoRow.holds Try.pinned (OpenSpec.upto feedKnownSpec)

end Rows
end Go.Proofs.Ytaodbjgcidkpkaa
