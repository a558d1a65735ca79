/-
  No cell of these rows narrows 'for every input' (looked for: loops, veiled, ifaces, maps, wideKeys, modest, calm, conditions, laid).
  DERIVED. THE GIVEN ROWS OF THIS SEAT. 12 by the template 'for every input the law returns true; each argument reads behind the call as it read before'; 0 by the template 'total and deterministic' (their statements: YthehhcaohhlccaaTotals.lean).
  GIVEN WITH THE SEED: the statements are not yours to turn. If you find one false, say at which input.
  Laid BY PROGRAM, IN A SANDBOX (cutbox-rows.mjs): the forced cells as the released guide's own fill.sh prints them over the translation 5d301b1f812dd413… (all of the seat's roots in one cut). By AI agents, Wed Nov 11 2026. No macro, syntax, notation, axiom, sorry.
-/
import Derived.Test.YthehhcaohhlccaaChecked
import GoSem.Claim
import GoSem.ClaimJoined
import GoSem.ClaimMapViews
import Derived.JoinedTies
import Derived.KernelRfl
namespace Go.Proofs.Ythehhcaohhlccaa
/- THE CELL 'sum', in the pinned program and in every row, IS THE sha256 OF THE DUMP (.gsa) THAT YthehhcaohhlccaaProg.lean LOADS. Nothing in Lean hashes anything: it is a label: what it is worth is what the hold of that sum in a sandbox is worth. -/
noncomputable def Try.pinned : Pinned := { name := "ythehhcaohhlccaa", sum := "5d301b1f812dd41361ef29f12d20076a585c000264ada235b897bf6aba25e7d3", checked := Try.checked }
namespace Rows
def none {H : Type} : Left H := { results := [], args := [] }

/-- 'timesynclaw34.DatasetCompares': WHATEVER THE INPUT: true; the input reads as it did. -/
def datasetComparesSpec : ChangeSpec := { name := "datasetCompares", fn := fun _ => fun
  | [d1, d2] => { results := [.lit (.bool true)], args := [d1, d2] }
  | _ => none }
def datasetComparesRow : OpenClaim := { program := "ythehhcaohhlccaa", sum := "5d301b1f812dd41361ef29f12d20076a585c000264ada235b897bf6aba25e7d3", func := "timesync/timesynclaw34.DatasetCompares", spec := "datasetCompares", unfollowed := true, recurses := true, apart := false }
def DatasetComparesSaid : Prop := datasetComparesRow.holds Try.pinned (OpenSpec.ofChange datasetComparesSpec)

/-- ITS FALSE NEIGHBOUR: 'it returns false'. Refute it at one input. -/
def datasetComparesWrong : ChangeSpec := { name := "datasetCompares", fn := fun _ => fun
  | [d1, d2] => { results := [.lit (.bool false)], args := [d1, d2] }
  | _ => none }
def DatasetComparesWrongFalsely : Prop := datasetComparesRow.holds Try.pinned (OpenSpec.ofChange datasetComparesWrong)

/-- 'timesynclaw34.DatasetBest': WHATEVER THE INPUT: true; the input reads as it did. -/
def datasetBestSpec : ChangeSpec := { name := "datasetBest", fn := fun _ => fun
  | [d1, d2, d3] => { results := [.lit (.bool true)], args := [d1, d2, d3] }
  | _ => none }
def datasetBestRow : OpenClaim := { program := "ythehhcaohhlccaa", sum := "5d301b1f812dd41361ef29f12d20076a585c000264ada235b897bf6aba25e7d3", func := "timesync/timesynclaw34.DatasetBest", spec := "datasetBest", unfollowed := true, recurses := true, apart := false }
def DatasetBestSaid : Prop := datasetBestRow.holds Try.pinned (OpenSpec.ofChange datasetBestSpec)

/-- ITS FALSE NEIGHBOUR: 'it returns false'. Refute it at one input. -/
def datasetBestWrong : ChangeSpec := { name := "datasetBest", fn := fun _ => fun
  | [d1, d2, d3] => { results := [.lit (.bool false)], args := [d1, d2, d3] }
  | _ => none }
def DatasetBestWrongFalsely : Prop := datasetBestRow.holds Try.pinned (OpenSpec.ofChange datasetBestWrong)

/-- 'timesynclaw34.DatasetMirror': WHATEVER THE INPUT: true; the input reads as it did. -/
def datasetMirrorSpec : ChangeSpec := { name := "datasetMirror", fn := fun _ => fun
  | [d1, d2] => { results := [.lit (.bool true)], args := [d1, d2] }
  | _ => none }
def datasetMirrorRow : OpenClaim := { program := "ythehhcaohhlccaa", sum := "5d301b1f812dd41361ef29f12d20076a585c000264ada235b897bf6aba25e7d3", func := "timesync/timesynclaw34.DatasetMirror", spec := "datasetMirror", unfollowed := true, recurses := true, apart := false }
def DatasetMirrorSaid : Prop := datasetMirrorRow.holds Try.pinned (OpenSpec.ofChange datasetMirrorSpec)

/-- ITS FALSE NEIGHBOUR: 'it returns false'. Refute it at one input. -/
def datasetMirrorWrong : ChangeSpec := { name := "datasetMirror", fn := fun _ => fun
  | [d1, d2] => { results := [.lit (.bool false)], args := [d1, d2] }
  | _ => none }
def DatasetMirrorWrongFalsely : Prop := datasetMirrorRow.holds Try.pinned (OpenSpec.ofChange datasetMirrorWrong)

/-- 'timesynclaw34.DatasetQuality': WHATEVER THE INPUT: true; the input reads as it did. -/
def datasetQualitySpec : ChangeSpec := { name := "datasetQuality", fn := fun _ => fun
  | [d1, d2, d3] => { results := [.lit (.bool true)], args := [d1, d2, d3] }
  | _ => none }
def datasetQualityRow : OpenClaim := { program := "ythehhcaohhlccaa", sum := "5d301b1f812dd41361ef29f12d20076a585c000264ada235b897bf6aba25e7d3", func := "timesync/timesynclaw34.DatasetQuality", spec := "datasetQuality", unfollowed := true, recurses := true, apart := false }
def DatasetQualitySaid : Prop := datasetQualityRow.holds Try.pinned (OpenSpec.ofChange datasetQualitySpec)

/-- ITS FALSE NEIGHBOUR: 'it returns false'. Refute it at one input. -/
def datasetQualityWrong : ChangeSpec := { name := "datasetQuality", fn := fun _ => fun
  | [d1, d2, d3] => { results := [.lit (.bool false)], args := [d1, d2, d3] }
  | _ => none }
def DatasetQualityWrongFalsely : Prop := datasetQualityRow.holds Try.pinned (OpenSpec.ofChange datasetQualityWrong)

/-- 'timesynclaw34.DatasetTotal': WHATEVER THE INPUT: true; the input reads as it did. -/
def datasetTotalSpec : ChangeSpec := { name := "datasetTotal", fn := fun _ => fun
  | [d1, d2, d3] => { results := [.lit (.bool true)], args := [d1, d2, d3] }
  | _ => none }
def datasetTotalRow : OpenClaim := { program := "ythehhcaohhlccaa", sum := "5d301b1f812dd41361ef29f12d20076a585c000264ada235b897bf6aba25e7d3", func := "timesync/timesynclaw34.DatasetTotal", spec := "datasetTotal", unfollowed := true, recurses := true, apart := false }
def DatasetTotalSaid : Prop := datasetTotalRow.holds Try.pinned (OpenSpec.ofChange datasetTotalSpec)

/-- ITS FALSE NEIGHBOUR: 'it returns false'. Refute it at one input. -/
def datasetTotalWrong : ChangeSpec := { name := "datasetTotal", fn := fun _ => fun
  | [d1, d2, d3] => { results := [.lit (.bool false)], args := [d1, d2, d3] }
  | _ => none }
def DatasetTotalWrongFalsely : Prop := datasetTotalRow.holds Try.pinned (OpenSpec.ofChange datasetTotalWrong)

/-- 'timesynclaw34.DatasetSteps': WHATEVER THE INPUT: true; the input reads as it did. -/
def datasetStepsSpec : ChangeSpec := { name := "datasetSteps", fn := fun _ => fun
  | [d1, d2, d3] => { results := [.lit (.bool true)], args := [d1, d2, d3] }
  | _ => none }
def datasetStepsRow : OpenClaim := { program := "ythehhcaohhlccaa", sum := "5d301b1f812dd41361ef29f12d20076a585c000264ada235b897bf6aba25e7d3", func := "timesync/timesynclaw34.DatasetSteps", spec := "datasetSteps", unfollowed := true, recurses := true, apart := false }
def DatasetStepsSaid : Prop := datasetStepsRow.holds Try.pinned (OpenSpec.ofChange datasetStepsSpec)

/-- ITS FALSE NEIGHBOUR: 'it returns false'. Refute it at one input. -/
def datasetStepsWrong : ChangeSpec := { name := "datasetSteps", fn := fun _ => fun
  | [d1, d2, d3] => { results := [.lit (.bool false)], args := [d1, d2, d3] }
  | _ => none }
def DatasetStepsWrongFalsely : Prop := datasetStepsRow.holds Try.pinned (OpenSpec.ofChange datasetStepsWrong)

/-- 'timesynclaw34.DatasetFarther': WHATEVER THE INPUT: true; the input reads as it did. -/
def datasetFartherSpec : ChangeSpec := { name := "datasetFarther", fn := fun _ => fun
  | [d1, d2, d3] => { results := [.lit (.bool true)], args := [d1, d2, d3] }
  | _ => none }
def datasetFartherRow : OpenClaim := { program := "ythehhcaohhlccaa", sum := "5d301b1f812dd41361ef29f12d20076a585c000264ada235b897bf6aba25e7d3", func := "timesync/timesynclaw34.DatasetFarther", spec := "datasetFarther", unfollowed := true, recurses := true, apart := false }
def DatasetFartherSaid : Prop := datasetFartherRow.holds Try.pinned (OpenSpec.ofChange datasetFartherSpec)

/-- ITS FALSE NEIGHBOUR: 'it returns false'. Refute it at one input. -/
def datasetFartherWrong : ChangeSpec := { name := "datasetFarther", fn := fun _ => fun
  | [d1, d2, d3] => { results := [.lit (.bool false)], args := [d1, d2, d3] }
  | _ => none }
def DatasetFartherWrongFalsely : Prop := datasetFartherRow.holds Try.pinned (OpenSpec.ofChange datasetFartherWrong)

/-- 'timesynctop.TopPorts': WHATEVER THE INPUT: true; the input reads as it did. -/
def topPortsSpec : ChangeSpec := { name := "topPorts", fn := fun _ => fun
  | [d1, d2, d3] => { results := [.lit (.bool true)], args := [d1, d2, d3] }
  | _ => none }
def topPortsRow : OpenClaim := { program := "ythehhcaohhlccaa", sum := "5d301b1f812dd41361ef29f12d20076a585c000264ada235b897bf6aba25e7d3", func := "timesync/timesynctop.TopPorts", spec := "topPorts", unfollowed := true, recurses := true, apart := false }
def TopPortsSaid : Prop := topPortsRow.holds Try.pinned (OpenSpec.ofChange topPortsSpec)

/-- ITS FALSE NEIGHBOUR: 'it returns false'. Refute it at one input. -/
def topPortsWrong : ChangeSpec := { name := "topPorts", fn := fun _ => fun
  | [d1, d2, d3] => { results := [.lit (.bool false)], args := [d1, d2, d3] }
  | _ => none }
def TopPortsWrongFalsely : Prop := topPortsRow.holds Try.pinned (OpenSpec.ofChange topPortsWrong)

/-- 'timesynclaw36.DecideMasters': WHATEVER THE INPUT: true; the input reads as it did. -/
def decideMastersSpec : ChangeSpec := { name := "decideMasters", fn := fun _ => fun
  | [d1, d2, d3] => { results := [.lit (.bool true)], args := [d1, d2, d3] }
  | _ => none }
def decideMastersRow : OpenClaim := { program := "ythehhcaohhlccaa", sum := "5d301b1f812dd41361ef29f12d20076a585c000264ada235b897bf6aba25e7d3", func := "timesync/timesynclaw36.DecideMasters", spec := "decideMasters", unfollowed := true, recurses := true, apart := false }
def DecideMastersSaid : Prop := decideMastersRow.holds Try.pinned (OpenSpec.ofChange decideMastersSpec)

/-- ITS FALSE NEIGHBOUR: 'it returns false'. Refute it at one input. -/
def decideMastersWrong : ChangeSpec := { name := "decideMasters", fn := fun _ => fun
  | [d1, d2, d3] => { results := [.lit (.bool false)], args := [d1, d2, d3] }
  | _ => none }
def DecideMastersWrongFalsely : Prop := decideMastersRow.holds Try.pinned (OpenSpec.ofChange decideMastersWrong)

/-- 'timesynclaw36.DecideSlave': WHATEVER THE INPUT: true; the input reads as it did. -/
def decideSlaveSpec : ChangeSpec := { name := "decideSlave", fn := fun _ => fun
  | [d1, d2] => { results := [.lit (.bool true)], args := [d1, d2] }
  | _ => none }
def decideSlaveRow : OpenClaim := { program := "ythehhcaohhlccaa", sum := "5d301b1f812dd41361ef29f12d20076a585c000264ada235b897bf6aba25e7d3", func := "timesync/timesynclaw36.DecideSlave", spec := "decideSlave", unfollowed := true, recurses := true, apart := false }
def DecideSlaveSaid : Prop := decideSlaveRow.holds Try.pinned (OpenSpec.ofChange decideSlaveSpec)

/-- ITS FALSE NEIGHBOUR: 'it returns false'. Refute it at one input. -/
def decideSlaveWrong : ChangeSpec := { name := "decideSlave", fn := fun _ => fun
  | [d1, d2] => { results := [.lit (.bool false)], args := [d1, d2] }
  | _ => none }
def DecideSlaveWrongFalsely : Prop := decideSlaveRow.holds Try.pinned (OpenSpec.ofChange decideSlaveWrong)

/-- 'timesynclaw36.DecideAlone': WHATEVER THE INPUT: true; the input reads as it did. -/
def decideAloneSpec : ChangeSpec := { name := "decideAlone", fn := fun _ => fun
  | [d1, d2] => { results := [.lit (.bool true)], args := [d1, d2] }
  | _ => none }
def decideAloneRow : OpenClaim := { program := "ythehhcaohhlccaa", sum := "5d301b1f812dd41361ef29f12d20076a585c000264ada235b897bf6aba25e7d3", func := "timesync/timesynclaw36.DecideAlone", spec := "decideAlone", unfollowed := true, recurses := true, apart := false }
def DecideAloneSaid : Prop := decideAloneRow.holds Try.pinned (OpenSpec.ofChange decideAloneSpec)

/-- ITS FALSE NEIGHBOUR: 'it returns false'. Refute it at one input. -/
def decideAloneWrong : ChangeSpec := { name := "decideAlone", fn := fun _ => fun
  | [d1, d2] => { results := [.lit (.bool false)], args := [d1, d2] }
  | _ => none }
def DecideAloneWrongFalsely : Prop := decideAloneRow.holds Try.pinned (OpenSpec.ofChange decideAloneWrong)

/-- 'timesynclaw36.DecideFollows': WHATEVER THE INPUT: true; the input reads as it did. -/
def decideFollowsSpec : ChangeSpec := { name := "decideFollows", fn := fun _ => fun
  | [d1, d2] => { results := [.lit (.bool true)], args := [d1, d2] }
  | _ => none }
def decideFollowsRow : OpenClaim := { program := "ythehhcaohhlccaa", sum := "5d301b1f812dd41361ef29f12d20076a585c000264ada235b897bf6aba25e7d3", func := "timesync/timesynclaw36.DecideFollows", spec := "decideFollows", unfollowed := true, recurses := true, apart := false }
def DecideFollowsSaid : Prop := decideFollowsRow.holds Try.pinned (OpenSpec.ofChange decideFollowsSpec)

/-- ITS FALSE NEIGHBOUR: 'it returns false'. Refute it at one input. -/
def decideFollowsWrong : ChangeSpec := { name := "decideFollows", fn := fun _ => fun
  | [d1, d2] => { results := [.lit (.bool false)], args := [d1, d2] }
  | _ => none }
def DecideFollowsWrongFalsely : Prop := decideFollowsRow.holds Try.pinned (OpenSpec.ofChange decideFollowsWrong)

/- THE SECOND FORM. 'bulk': how many values and letters a reading holds, each counted each time it is reached (what is shared counts as often as it is met; a slice's spare places count too). A statement '..UptoSaid' is the law's where the arguments, and the package variables that the reading takes, are together of bulk at most 1048576: NARROWER than '..Said'. Prove '..Said' where nothing that the law and all that it calls make is longer than what came in: it says more and counts as full. Else prove '..UptoSaid'. A law counts once. -/
mutual
def uptoBulk {H : Type} : DataW H → Nat
  | .lit (.string bytes) => bytes.length + 1
  | .lit _ => 1
  | .nil => 1
  | .ptr d => uptoBulk d + 1
  | .slice elems spare => uptoBulkAll elems + uptoBulkAll spare + 1
  | .agg parts => uptoBulkAll parts + 1
  | .iface _ d => uptoBulk d + 1
  | .map entries => uptoBulkEntries entries + 1
  | .held _ => 1
def uptoBulkAll {H : Type} : List (DataW H) → Nat
  | [] => 0
  | d :: r => uptoBulk d + uptoBulkAll r
def uptoBulkEntries {H : Type} : List (Lit × DataW H) → Nat
  | [] => 0
  | x :: r => uptoBulkEntry x + uptoBulkEntries r
def uptoBulkEntry {H : Type} : Lit × DataW H → Nat
  | (.string bytes, d) => bytes.length + uptoBulk d + 1
  | (_, d) => uptoBulk d + 1
 end
def uptoSmall : (H : Type) → List (DataW H) → Bool := fun _ ds => decide (uptoBulkAll ds ≤ 1048576)
def OpenSpec.upto (s : _root_.Go.ChangeSpec) : _root_.Go.OpenSpec := { _root_.Go.OpenSpec.ofChange s with cond := some uptoSmall }

/-- 'timesynclaw34.DatasetCompares', WHERE WHAT IT READS IS OF BULK AT MOST 1048576: true; the input reads as it did. -/
def datasetComparesUptoRow : OpenClaim := { program := "ythehhcaohhlccaa", sum := "5d301b1f812dd41361ef29f12d20076a585c000264ada235b897bf6aba25e7d3", func := "timesync/timesynclaw34.DatasetCompares", spec := "datasetCompares", unfollowed := true, recurses := true, apart := false, narrowed := true }
def DatasetComparesUptoSaid : Prop := datasetComparesUptoRow.holds Try.pinned (OpenSpec.upto datasetComparesSpec)

/-- 'timesynclaw34.DatasetBest', WHERE WHAT IT READS IS OF BULK AT MOST 1048576: true; the input reads as it did. -/
def datasetBestUptoRow : OpenClaim := { program := "ythehhcaohhlccaa", sum := "5d301b1f812dd41361ef29f12d20076a585c000264ada235b897bf6aba25e7d3", func := "timesync/timesynclaw34.DatasetBest", spec := "datasetBest", unfollowed := true, recurses := true, apart := false, narrowed := true }
def DatasetBestUptoSaid : Prop := datasetBestUptoRow.holds Try.pinned (OpenSpec.upto datasetBestSpec)

/-- 'timesynclaw34.DatasetMirror', WHERE WHAT IT READS IS OF BULK AT MOST 1048576: true; the input reads as it did. -/
def datasetMirrorUptoRow : OpenClaim := { program := "ythehhcaohhlccaa", sum := "5d301b1f812dd41361ef29f12d20076a585c000264ada235b897bf6aba25e7d3", func := "timesync/timesynclaw34.DatasetMirror", spec := "datasetMirror", unfollowed := true, recurses := true, apart := false, narrowed := true }
def DatasetMirrorUptoSaid : Prop := datasetMirrorUptoRow.holds Try.pinned (OpenSpec.upto datasetMirrorSpec)

/-- 'timesynclaw34.DatasetQuality', WHERE WHAT IT READS IS OF BULK AT MOST 1048576: true; the input reads as it did. -/
def datasetQualityUptoRow : OpenClaim := { program := "ythehhcaohhlccaa", sum := "5d301b1f812dd41361ef29f12d20076a585c000264ada235b897bf6aba25e7d3", func := "timesync/timesynclaw34.DatasetQuality", spec := "datasetQuality", unfollowed := true, recurses := true, apart := false, narrowed := true }
def DatasetQualityUptoSaid : Prop := datasetQualityUptoRow.holds Try.pinned (OpenSpec.upto datasetQualitySpec)

/-- 'timesynclaw34.DatasetTotal', WHERE WHAT IT READS IS OF BULK AT MOST 1048576: true; the input reads as it did. -/
def datasetTotalUptoRow : OpenClaim := { program := "ythehhcaohhlccaa", sum := "5d301b1f812dd41361ef29f12d20076a585c000264ada235b897bf6aba25e7d3", func := "timesync/timesynclaw34.DatasetTotal", spec := "datasetTotal", unfollowed := true, recurses := true, apart := false, narrowed := true }
def DatasetTotalUptoSaid : Prop := datasetTotalUptoRow.holds Try.pinned (OpenSpec.upto datasetTotalSpec)

/-- 'timesynclaw34.DatasetSteps', WHERE WHAT IT READS IS OF BULK AT MOST 1048576: true; the input reads as it did. -/
def datasetStepsUptoRow : OpenClaim := { program := "ythehhcaohhlccaa", sum := "5d301b1f812dd41361ef29f12d20076a585c000264ada235b897bf6aba25e7d3", func := "timesync/timesynclaw34.DatasetSteps", spec := "datasetSteps", unfollowed := true, recurses := true, apart := false, narrowed := true }
def DatasetStepsUptoSaid : Prop := datasetStepsUptoRow.holds Try.pinned (OpenSpec.upto datasetStepsSpec)

/-- 'timesynclaw34.DatasetFarther', WHERE WHAT IT READS IS OF BULK AT MOST 1048576: true; the input reads as it did. -/
def datasetFartherUptoRow : OpenClaim := { program := "ythehhcaohhlccaa", sum := "5d301b1f812dd41361ef29f12d20076a585c000264ada235b897bf6aba25e7d3", func := "timesync/timesynclaw34.DatasetFarther", spec := "datasetFarther", unfollowed := true, recurses := true, apart := false, narrowed := true }
def DatasetFartherUptoSaid : Prop := datasetFartherUptoRow.holds Try.pinned (OpenSpec.upto datasetFartherSpec)

/-- 'timesynctop.TopPorts', WHERE WHAT IT READS IS OF BULK AT MOST 1048576: true; the input reads as it did. -/
def topPortsUptoRow : OpenClaim := { program := "ythehhcaohhlccaa", sum := "5d301b1f812dd41361ef29f12d20076a585c000264ada235b897bf6aba25e7d3", func := "timesync/timesynctop.TopPorts", spec := "topPorts", unfollowed := true, recurses := true, apart := false, narrowed := true }
def TopPortsUptoSaid : Prop := topPortsUptoRow.holds Try.pinned (OpenSpec.upto topPortsSpec)

/-- 'timesynclaw36.DecideMasters', WHERE WHAT IT READS IS OF BULK AT MOST 1048576: true; the input reads as it did. -/
def decideMastersUptoRow : OpenClaim := { program := "ythehhcaohhlccaa", sum := "5d301b1f812dd41361ef29f12d20076a585c000264ada235b897bf6aba25e7d3", func := "timesync/timesynclaw36.DecideMasters", spec := "decideMasters", unfollowed := true, recurses := true, apart := false, narrowed := true }
def DecideMastersUptoSaid : Prop := decideMastersUptoRow.holds Try.pinned (OpenSpec.upto decideMastersSpec)

/-- 'timesynclaw36.DecideSlave', WHERE WHAT IT READS IS OF BULK AT MOST 1048576: true; the input reads as it did. -/
def decideSlaveUptoRow : OpenClaim := { program := "ythehhcaohhlccaa", sum := "5d301b1f812dd41361ef29f12d20076a585c000264ada235b897bf6aba25e7d3", func := "timesync/timesynclaw36.DecideSlave", spec := "decideSlave", unfollowed := true, recurses := true, apart := false, narrowed := true }
def DecideSlaveUptoSaid : Prop := decideSlaveUptoRow.holds Try.pinned (OpenSpec.upto decideSlaveSpec)

/-- 'timesynclaw36.DecideAlone', WHERE WHAT IT READS IS OF BULK AT MOST 1048576: true; the input reads as it did. -/
def decideAloneUptoRow : OpenClaim := { program := "ythehhcaohhlccaa", sum := "5d301b1f812dd41361ef29f12d20076a585c000264ada235b897bf6aba25e7d3", func := "timesync/timesynclaw36.DecideAlone", spec := "decideAlone", unfollowed := true, recurses := true, apart := false, narrowed := true }
def DecideAloneUptoSaid : Prop := decideAloneUptoRow.holds Try.pinned (OpenSpec.upto decideAloneSpec)

/-- 'timesynclaw36.DecideFollows', WHERE WHAT IT READS IS OF BULK AT MOST 1048576: true; the input reads as it did. -/
def decideFollowsUptoRow : OpenClaim := { program := "ythehhcaohhlccaa", sum := "5d301b1f812dd41361ef29f12d20076a585c000264ada235b897bf6aba25e7d3", func := "timesync/timesynclaw36.DecideFollows", spec := "decideFollows", unfollowed := true, recurses := true, apart := false, narrowed := true }
def DecideFollowsUptoSaid : Prop := decideFollowsUptoRow.holds Try.pinned (OpenSpec.upto decideFollowsSpec)

end Rows
end Go.Proofs.Ythehhcaohhlccaa
