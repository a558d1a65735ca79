/-
  No cell of these rows narrows 'for every input' (looked for: loops, veiled, ifaces, maps, wideKeys, modest, calm, conditions, laid).
  DERIVED. THE GIVEN ROWS OF THIS SEAT. 8 by the template 'for every input the law returns true; each argument reads behind the call as it read before'; 0 by the template 'total and deterministic' (their statements: YtkjnhabflkaopaaTotals.lean).
  GIVEN WITH THE SEED: the statements are not yours to turn. If you find one false, say at which input.
  Laid BY PROGRAM, IN A SANDBOX (cutbox-rows.mjs): the forced cells as the released guide's own fill.sh prints them over the translation 8bbde6d7185e2b5c… (all of the seat's roots in one cut). By AI agents, Wed Nov 11 2026. No macro, syntax, notation, axiom, sorry.
-/
import Derived.Test.YtkjnhabflkaopaaChecked
import GoSem.Claim
import GoSem.ClaimJoined
import GoSem.ClaimMapViews
import Derived.JoinedTies
import Derived.KernelRfl
namespace Go.Proofs.Ytkjnhabflkaopaa
/- THE CELL 'sum', in the pinned program and in every row, IS THE sha256 OF THE DUMP (.gsa) THAT YtkjnhabflkaopaaProg.lean LOADS. Nothing in Lean hashes anything: it is a label: what it is worth is what the hold of that sum in a sandbox is worth. -/
noncomputable def Try.pinned : Pinned := { name := "ytkjnhabflkaopaa", sum := "8bbde6d7185e2b5c11e77fcfb60dbe4ddcb6f34c212ff988ea95b0349fad8f83", checked := Try.checked }
namespace Rows
def none {H : Type} : Left H := { results := [], args := [] }

/-- 'timesynctop.TopPeer': WHATEVER THE INPUT: true; the input reads as it did. -/
def topPeerSpec : ChangeSpec := { name := "topPeer", fn := fun _ => fun
  | [d1, d2] => { results := [.lit (.bool true)], args := [d1, d2] }
  | _ => none }
def topPeerRow : OpenClaim := { program := "ytkjnhabflkaopaa", sum := "8bbde6d7185e2b5c11e77fcfb60dbe4ddcb6f34c212ff988ea95b0349fad8f83", func := "timesync/timesynctop.TopPeer", spec := "topPeer", apart := false }
def TopPeerSaid : Prop := topPeerRow.holds Try.pinned (OpenSpec.ofChange topPeerSpec)

/-- ITS FALSE NEIGHBOUR: 'it returns false'. Refute it at one input. -/
def topPeerWrong : ChangeSpec := { name := "topPeer", fn := fun _ => fun
  | [d1, d2] => { results := [.lit (.bool false)], args := [d1, d2] }
  | _ => none }
def TopPeerWrongFalsely : Prop := topPeerRow.holds Try.pinned (OpenSpec.ofChange topPeerWrong)

/-- 'timesynclaw34.DatasetOf': WHATEVER THE INPUT: true; the input reads as it did. -/
def datasetOfSpec : ChangeSpec := { name := "datasetOf", fn := fun _ => fun
  | [d1, d2, d3] => { results := [.lit (.bool true)], args := [d1, d2, d3] }
  | _ => none }
def datasetOfRow : OpenClaim := { program := "ytkjnhabflkaopaa", sum := "8bbde6d7185e2b5c11e77fcfb60dbe4ddcb6f34c212ff988ea95b0349fad8f83", func := "timesync/timesynclaw34.DatasetOf", spec := "datasetOf", unfollowed := true, recurses := true, apart := false }
def DatasetOfSaid : Prop := datasetOfRow.holds Try.pinned (OpenSpec.ofChange datasetOfSpec)

/-- ITS FALSE NEIGHBOUR: 'it returns false'. Refute it at one input. -/
def datasetOfWrong : ChangeSpec := { name := "datasetOf", fn := fun _ => fun
  | [d1, d2, d3] => { results := [.lit (.bool false)], args := [d1, d2, d3] }
  | _ => none }
def DatasetOfWrongFalsely : Prop := datasetOfRow.holds Try.pinned (OpenSpec.ofChange datasetOfWrong)

/-- 'timesynclaw38.E2eExact': WHATEVER THE INPUT: true; the input reads as it did. -/
def e2eExactSpec : ChangeSpec := { name := "e2eExact", fn := fun _ => fun
  | [d1, d2] => { results := [.lit (.bool true)], args := [d1, d2] }
  | _ => none }
def e2eExactRow : OpenClaim := { program := "ytkjnhabflkaopaa", sum := "8bbde6d7185e2b5c11e77fcfb60dbe4ddcb6f34c212ff988ea95b0349fad8f83", func := "timesync/timesynclaw38.E2eExact", spec := "e2eExact", unfollowed := true, recurses := true, apart := false }
def E2eExactSaid : Prop := e2eExactRow.holds Try.pinned (OpenSpec.ofChange e2eExactSpec)

/-- ITS FALSE NEIGHBOUR: 'it returns false'. Refute it at one input. -/
def e2eExactWrong : ChangeSpec := { name := "e2eExact", fn := fun _ => fun
  | [d1, d2] => { results := [.lit (.bool false)], args := [d1, d2] }
  | _ => none }
def E2eExactWrongFalsely : Prop := e2eExactRow.holds Try.pinned (OpenSpec.ofChange e2eExactWrong)

/-- 'timesynclaw38.E2eAsymmetry': WHATEVER THE INPUT: true; the input reads as it did. -/
def e2eAsymmetrySpec : ChangeSpec := { name := "e2eAsymmetry", fn := fun _ => fun
  | [d1, d2] => { results := [.lit (.bool true)], args := [d1, d2] }
  | _ => none }
def e2eAsymmetryRow : OpenClaim := { program := "ytkjnhabflkaopaa", sum := "8bbde6d7185e2b5c11e77fcfb60dbe4ddcb6f34c212ff988ea95b0349fad8f83", func := "timesync/timesynclaw38.E2eAsymmetry", spec := "e2eAsymmetry", unfollowed := true, recurses := true, apart := false }
def E2eAsymmetrySaid : Prop := e2eAsymmetryRow.holds Try.pinned (OpenSpec.ofChange e2eAsymmetrySpec)

/-- ITS FALSE NEIGHBOUR: 'it returns false'. Refute it at one input. -/
def e2eAsymmetryWrong : ChangeSpec := { name := "e2eAsymmetry", fn := fun _ => fun
  | [d1, d2] => { results := [.lit (.bool false)], args := [d1, d2] }
  | _ => none }
def E2eAsymmetryWrongFalsely : Prop := e2eAsymmetryRow.holds Try.pinned (OpenSpec.ofChange e2eAsymmetryWrong)

/-- 'timesynclaw38.E2eSteps': WHATEVER THE INPUT: true; the input reads as it did. -/
def e2eStepsSpec : ChangeSpec := { name := "e2eSteps", fn := fun _ => fun
  | [d1, d2, d3] => { results := [.lit (.bool true)], args := [d1, d2, d3] }
  | _ => none }
def e2eStepsRow : OpenClaim := { program := "ytkjnhabflkaopaa", sum := "8bbde6d7185e2b5c11e77fcfb60dbe4ddcb6f34c212ff988ea95b0349fad8f83", func := "timesync/timesynclaw38.E2eSteps", spec := "e2eSteps", unfollowed := true, recurses := true, apart := false }
def E2eStepsSaid : Prop := e2eStepsRow.holds Try.pinned (OpenSpec.ofChange e2eStepsSpec)

/-- ITS FALSE NEIGHBOUR: 'it returns false'. Refute it at one input. -/
def e2eStepsWrong : ChangeSpec := { name := "e2eSteps", fn := fun _ => fun
  | [d1, d2, d3] => { results := [.lit (.bool false)], args := [d1, d2, d3] }
  | _ => none }
def E2eStepsWrongFalsely : Prop := e2eStepsRow.holds Try.pinned (OpenSpec.ofChange e2eStepsWrong)

/-- 'timesynclaw38.E2eRefuses': WHATEVER THE INPUT: true; the input reads as it did. -/
def e2eRefusesSpec : ChangeSpec := { name := "e2eRefuses", fn := fun _ => fun
  | [d1, d2] => { results := [.lit (.bool true)], args := [d1, d2] }
  | _ => none }
def e2eRefusesRow : OpenClaim := { program := "ytkjnhabflkaopaa", sum := "8bbde6d7185e2b5c11e77fcfb60dbe4ddcb6f34c212ff988ea95b0349fad8f83", func := "timesync/timesynclaw38.E2eRefuses", spec := "e2eRefuses", unfollowed := true, recurses := true, apart := false }
def E2eRefusesSaid : Prop := e2eRefusesRow.holds Try.pinned (OpenSpec.ofChange e2eRefusesSpec)

/-- ITS FALSE NEIGHBOUR: 'it returns false'. Refute it at one input. -/
def e2eRefusesWrong : ChangeSpec := { name := "e2eRefuses", fn := fun _ => fun
  | [d1, d2] => { results := [.lit (.bool false)], args := [d1, d2] }
  | _ => none }
def E2eRefusesWrongFalsely : Prop := e2eRefusesRow.holds Try.pinned (OpenSpec.ofChange e2eRefusesWrong)

/-- 'timesynclaw38.E2eOthers': WHATEVER THE INPUT: true; the input reads as it did. -/
def e2eOthersSpec : ChangeSpec := { name := "e2eOthers", fn := fun _ => fun
  | [d1, d2, d3] => { results := [.lit (.bool true)], args := [d1, d2, d3] }
  | _ => none }
def e2eOthersRow : OpenClaim := { program := "ytkjnhabflkaopaa", sum := "8bbde6d7185e2b5c11e77fcfb60dbe4ddcb6f34c212ff988ea95b0349fad8f83", func := "timesync/timesynclaw38.E2eOthers", spec := "e2eOthers", unfollowed := true, recurses := true, apart := false }
def E2eOthersSaid : Prop := e2eOthersRow.holds Try.pinned (OpenSpec.ofChange e2eOthersSpec)

/-- ITS FALSE NEIGHBOUR: 'it returns false'. Refute it at one input. -/
def e2eOthersWrong : ChangeSpec := { name := "e2eOthers", fn := fun _ => fun
  | [d1, d2, d3] => { results := [.lit (.bool false)], args := [d1, d2, d3] }
  | _ => none }
def E2eOthersWrongFalsely : Prop := e2eOthersRow.holds Try.pinned (OpenSpec.ofChange e2eOthersWrong)

/-- 'timesynclaw38.E2eNobody': WHATEVER THE INPUT: true; the input reads as it did. -/
def e2eNobodySpec : ChangeSpec := { name := "e2eNobody", fn := fun _ => fun
  | [d] => { results := [.lit (.bool true)], args := [d] }
  | _ => none }
def e2eNobodyRow : OpenClaim := { program := "ytkjnhabflkaopaa", sum := "8bbde6d7185e2b5c11e77fcfb60dbe4ddcb6f34c212ff988ea95b0349fad8f83", func := "timesync/timesynclaw38.E2eNobody", spec := "e2eNobody", unfollowed := true, recurses := true, apart := false }
def E2eNobodySaid : Prop := e2eNobodyRow.holds Try.pinned (OpenSpec.ofChange e2eNobodySpec)

/-- ITS FALSE NEIGHBOUR: 'it returns false'. Refute it at one input. -/
def e2eNobodyWrong : ChangeSpec := { name := "e2eNobody", fn := fun _ => fun
  | [d] => { results := [.lit (.bool false)], args := [d] }
  | _ => none }
def E2eNobodyWrongFalsely : Prop := e2eNobodyRow.holds Try.pinned (OpenSpec.ofChange e2eNobodyWrong)

/- THE SECOND FORM. 'bulk': how many values and letters a reading holds, each counted each time it is reached (what is shared counts as often as it is met; a slice's spare places count too). A statement '..UptoSaid' is the law's where the arguments, and the package variables that the reading takes, are together of bulk at most 1048576: NARROWER than '..Said'. Prove '..Said' where nothing that the law and all that it calls make is longer than what came in: it says more and counts as full. Else prove '..UptoSaid'. A law counts once. -/
mutual
def uptoBulk {H : Type} : DataW H → Nat
  | .lit (.string bytes) => bytes.length + 1
  | .lit _ => 1
  | .nil => 1
  | .ptr d => uptoBulk d + 1
  | .slice elems spare => uptoBulkAll elems + uptoBulkAll spare + 1
  | .agg parts => uptoBulkAll parts + 1
  | .iface _ d => uptoBulk d + 1
  | .map entries => uptoBulkEntries entries + 1
  | .held _ => 1
def uptoBulkAll {H : Type} : List (DataW H) → Nat
  | [] => 0
  | d :: r => uptoBulk d + uptoBulkAll r
def uptoBulkEntries {H : Type} : List (Lit × DataW H) → Nat
  | [] => 0
  | x :: r => uptoBulkEntry x + uptoBulkEntries r
def uptoBulkEntry {H : Type} : Lit × DataW H → Nat
  | (.string bytes, d) => bytes.length + uptoBulk d + 1
  | (_, d) => uptoBulk d + 1
 end
def uptoSmall : (H : Type) → List (DataW H) → Bool := fun _ ds => decide (uptoBulkAll ds ≤ 1048576)
def OpenSpec.upto (s : _root_.Go.ChangeSpec) : _root_.Go.OpenSpec := { _root_.Go.OpenSpec.ofChange s with cond := some uptoSmall }

/-- 'timesynctop.TopPeer', WHERE WHAT IT READS IS OF BULK AT MOST 1048576: true; the input reads as it did. -/
def topPeerUptoRow : OpenClaim := { program := "ytkjnhabflkaopaa", sum := "8bbde6d7185e2b5c11e77fcfb60dbe4ddcb6f34c212ff988ea95b0349fad8f83", func := "timesync/timesynctop.TopPeer", spec := "topPeer", apart := false, narrowed := true }
def TopPeerUptoSaid : Prop := topPeerUptoRow.holds Try.pinned (OpenSpec.upto topPeerSpec)

/-- 'timesynclaw34.DatasetOf', WHERE WHAT IT READS IS OF BULK AT MOST 1048576: true; the input reads as it did. -/
def datasetOfUptoRow : OpenClaim := { program := "ytkjnhabflkaopaa", sum := "8bbde6d7185e2b5c11e77fcfb60dbe4ddcb6f34c212ff988ea95b0349fad8f83", func := "timesync/timesynclaw34.DatasetOf", spec := "datasetOf", unfollowed := true, recurses := true, apart := false, narrowed := true }
def DatasetOfUptoSaid : Prop := datasetOfUptoRow.holds Try.pinned (OpenSpec.upto datasetOfSpec)

/-- 'timesynclaw38.E2eExact', WHERE WHAT IT READS IS OF BULK AT MOST 1048576: true; the input reads as it did. -/
def e2eExactUptoRow : OpenClaim := { program := "ytkjnhabflkaopaa", sum := "8bbde6d7185e2b5c11e77fcfb60dbe4ddcb6f34c212ff988ea95b0349fad8f83", func := "timesync/timesynclaw38.E2eExact", spec := "e2eExact", unfollowed := true, recurses := true, apart := false, narrowed := true }
def E2eExactUptoSaid : Prop := e2eExactUptoRow.holds Try.pinned (OpenSpec.upto e2eExactSpec)

/-- 'timesynclaw38.E2eAsymmetry', WHERE WHAT IT READS IS OF BULK AT MOST 1048576: true; the input reads as it did. -/
def e2eAsymmetryUptoRow : OpenClaim := { program := "ytkjnhabflkaopaa", sum := "8bbde6d7185e2b5c11e77fcfb60dbe4ddcb6f34c212ff988ea95b0349fad8f83", func := "timesync/timesynclaw38.E2eAsymmetry", spec := "e2eAsymmetry", unfollowed := true, recurses := true, apart := false, narrowed := true }
def E2eAsymmetryUptoSaid : Prop := e2eAsymmetryUptoRow.holds Try.pinned (OpenSpec.upto e2eAsymmetrySpec)

/-- 'timesynclaw38.E2eSteps', WHERE WHAT IT READS IS OF BULK AT MOST 1048576: true; the input reads as it did. -/
def e2eStepsUptoRow : OpenClaim := { program := "ytkjnhabflkaopaa", sum := "8bbde6d7185e2b5c11e77fcfb60dbe4ddcb6f34c212ff988ea95b0349fad8f83", func := "timesync/timesynclaw38.E2eSteps", spec := "e2eSteps", unfollowed := true, recurses := true, apart := false, narrowed := true }
def E2eStepsUptoSaid : Prop := e2eStepsUptoRow.holds Try.pinned (OpenSpec.upto e2eStepsSpec)

/-- 'timesynclaw38.E2eRefuses', WHERE WHAT IT READS IS OF BULK AT MOST 1048576: true; the input reads as it did. -/
def e2eRefusesUptoRow : OpenClaim := { program := "ytkjnhabflkaopaa", sum := "8bbde6d7185e2b5c11e77fcfb60dbe4ddcb6f34c212ff988ea95b0349fad8f83", func := "timesync/timesynclaw38.E2eRefuses", spec := "e2eRefuses", unfollowed := true, recurses := true, apart := false, narrowed := true }
def E2eRefusesUptoSaid : Prop := e2eRefusesUptoRow.holds Try.pinned (OpenSpec.upto e2eRefusesSpec)

/-- 'timesynclaw38.E2eOthers', WHERE WHAT IT READS IS OF BULK AT MOST 1048576: true; the input reads as it did. -/
def e2eOthersUptoRow : OpenClaim := { program := "ytkjnhabflkaopaa", sum := "8bbde6d7185e2b5c11e77fcfb60dbe4ddcb6f34c212ff988ea95b0349fad8f83", func := "timesync/timesynclaw38.E2eOthers", spec := "e2eOthers", unfollowed := true, recurses := true, apart := false, narrowed := true }
def E2eOthersUptoSaid : Prop := e2eOthersUptoRow.holds Try.pinned (OpenSpec.upto e2eOthersSpec)

/-- 'timesynclaw38.E2eNobody', WHERE WHAT IT READS IS OF BULK AT MOST 1048576: true; the input reads as it did. -/
def e2eNobodyUptoRow : OpenClaim := { program := "ytkjnhabflkaopaa", sum := "8bbde6d7185e2b5c11e77fcfb60dbe4ddcb6f34c212ff988ea95b0349fad8f83", func := "timesync/timesynclaw38.E2eNobody", spec := "e2eNobody", unfollowed := true, recurses := true, apart := false, narrowed := true }
def E2eNobodyUptoSaid : Prop := e2eNobodyUptoRow.holds Try.pinned (OpenSpec.upto e2eNobodySpec)

end Rows
end Go.Proofs.Ytkjnhabflkaopaa
