/-
  No cell of these rows narrows 'for every input' (looked for: loops, veiled, ifaces, maps, wideKeys, modest, calm, conditions, laid).
  DERIVED. THE GIVEN ROWS OF THIS SEAT. 3 by the template 'for every input the law returns true; each argument reads behind the call as it read before'; 0 by the template 'total and deterministic' (their statements: YtfbmlpdomfchpaaTotals.lean).
  GIVEN WITH THE SEED: the statements are not yours to turn. If you find one false, say at which input.
  Laid BY PROGRAM, IN A SANDBOX (cutbox-rows.mjs): the forced cells as the released guide's own fill.sh prints them over the translation d3fc04a8e53f7a39… (all of the seat's roots in one cut). By AI agents, Wed Nov 11 2026. No macro, syntax, notation, axiom, sorry.
-/
import Derived.Test.YtfbmlpdomfchpaaChecked
import GoSem.Claim
import GoSem.ClaimJoined
import GoSem.ClaimMapViews
import Derived.JoinedTies
import Derived.KernelRfl
namespace Go.Proofs.Ytfbmlpdomfchpaa
/- THE CELL 'sum', in the pinned program and in every row, IS THE sha256 OF THE DUMP (.gsa) THAT YtfbmlpdomfchpaaProg.lean LOADS. Nothing in Lean hashes anything: it is a label: what it is worth is what the hold of that sum in a sandbox is worth. -/
noncomputable def Try.pinned : Pinned := { name := "ytfbmlpdomfchpaa", sum := "d3fc04a8e53f7a39d0db74dfb59fd9b01d6da550f2751ab8841c30cdae162c49", checked := Try.checked }
namespace Rows
def none {H : Type} : Left H := { results := [], args := [] }

/-- 'timesynclaw41.BoundaryFollows': WHATEVER THE INPUT: true; the input reads as it did. -/
def boundaryFollowsSpec : ChangeSpec := { name := "boundaryFollows", fn := fun _ => fun
  | [d1, d2] => { results := [.lit (.bool true)], args := [d1, d2] }
  | _ => none }
def boundaryFollowsRow : OpenClaim := { program := "ytfbmlpdomfchpaa", sum := "d3fc04a8e53f7a39d0db74dfb59fd9b01d6da550f2751ab8841c30cdae162c49", func := "timesync/timesynclaw41.BoundaryFollows", spec := "boundaryFollows", unfollowed := true, recurses := true, apart := false }
def BoundaryFollowsSaid : Prop := boundaryFollowsRow.holds Try.pinned (OpenSpec.ofChange boundaryFollowsSpec)

/-- ITS FALSE NEIGHBOUR: 'it returns false'. Refute it at one input. -/
def boundaryFollowsWrong : ChangeSpec := { name := "boundaryFollows", fn := fun _ => fun
  | [d1, d2] => { results := [.lit (.bool false)], args := [d1, d2] }
  | _ => none }
def BoundaryFollowsWrongFalsely : Prop := boundaryFollowsRow.holds Try.pinned (OpenSpec.ofChange boundaryFollowsWrong)

/-- 'timesynclaw41.BoundarySends': WHATEVER THE INPUT: true; the input reads as it did. -/
def boundarySendsSpec : ChangeSpec := { name := "boundarySends", fn := fun _ => fun
  | [d1, d2] => { results := [.lit (.bool true)], args := [d1, d2] }
  | _ => none }
def boundarySendsRow : OpenClaim := { program := "ytfbmlpdomfchpaa", sum := "d3fc04a8e53f7a39d0db74dfb59fd9b01d6da550f2751ab8841c30cdae162c49", func := "timesync/timesynclaw41.BoundarySends", spec := "boundarySends", unfollowed := true, recurses := true, apart := false }
def BoundarySendsSaid : Prop := boundarySendsRow.holds Try.pinned (OpenSpec.ofChange boundarySendsSpec)

/-- ITS FALSE NEIGHBOUR: 'it returns false'. Refute it at one input. -/
def boundarySendsWrong : ChangeSpec := { name := "boundarySends", fn := fun _ => fun
  | [d1, d2] => { results := [.lit (.bool false)], args := [d1, d2] }
  | _ => none }
def BoundarySendsWrongFalsely : Prop := boundarySendsRow.holds Try.pinned (OpenSpec.ofChange boundarySendsWrong)

/-- 'timesynclaw41.BoundaryNobody': WHATEVER THE INPUT: true; the input reads as it did. -/
def boundaryNobodySpec : ChangeSpec := { name := "boundaryNobody", fn := fun _ => fun
  | [d1, d2, d3] => { results := [.lit (.bool true)], args := [d1, d2, d3] }
  | _ => none }
def boundaryNobodyRow : OpenClaim := { program := "ytfbmlpdomfchpaa", sum := "d3fc04a8e53f7a39d0db74dfb59fd9b01d6da550f2751ab8841c30cdae162c49", func := "timesync/timesynclaw41.BoundaryNobody", spec := "boundaryNobody", unfollowed := true, recurses := true, apart := false }
def BoundaryNobodySaid : Prop := boundaryNobodyRow.holds Try.pinned (OpenSpec.ofChange boundaryNobodySpec)

/-- ITS FALSE NEIGHBOUR: 'it returns false'. Refute it at one input. -/
def boundaryNobodyWrong : ChangeSpec := { name := "boundaryNobody", fn := fun _ => fun
  | [d1, d2, d3] => { results := [.lit (.bool false)], args := [d1, d2, d3] }
  | _ => none }
def BoundaryNobodyWrongFalsely : Prop := boundaryNobodyRow.holds Try.pinned (OpenSpec.ofChange boundaryNobodyWrong)

/- THE SECOND FORM. 'bulk': how many values and letters a reading holds, each counted each time it is reached (what is shared counts as often as it is met; a slice's spare places count too). A statement '..UptoSaid' is the law's where the arguments, and the package variables that the reading takes, are together of bulk at most 1048576: NARROWER than '..Said'. Prove '..Said' where nothing that the law and all that it calls make is longer than what came in: it says more and counts as full. Else prove '..UptoSaid'. A law counts once. -/
mutual
def uptoBulk {H : Type} : DataW H → Nat
  | .lit (.string bytes) => bytes.length + 1
  | .lit _ => 1
  | .nil => 1
  | .ptr d => uptoBulk d + 1
  | .slice elems spare => uptoBulkAll elems + uptoBulkAll spare + 1
  | .agg parts => uptoBulkAll parts + 1
  | .iface _ d => uptoBulk d + 1
  | .map entries => uptoBulkEntries entries + 1
  | .held _ => 1
def uptoBulkAll {H : Type} : List (DataW H) → Nat
  | [] => 0
  | d :: r => uptoBulk d + uptoBulkAll r
def uptoBulkEntries {H : Type} : List (Lit × DataW H) → Nat
  | [] => 0
  | x :: r => uptoBulkEntry x + uptoBulkEntries r
def uptoBulkEntry {H : Type} : Lit × DataW H → Nat
  | (.string bytes, d) => bytes.length + uptoBulk d + 1
  | (_, d) => uptoBulk d + 1
 end
def uptoSmall : (H : Type) → List (DataW H) → Bool := fun _ ds => decide (uptoBulkAll ds ≤ 1048576)
def OpenSpec.upto (s : _root_.Go.ChangeSpec) : _root_.Go.OpenSpec := { _root_.Go.OpenSpec.ofChange s with cond := some uptoSmall }

/-- 'timesynclaw41.BoundaryFollows', WHERE WHAT IT READS IS OF BULK AT MOST 1048576: true; the input reads as it did. -/
def boundaryFollowsUptoRow : OpenClaim := { program := "ytfbmlpdomfchpaa", sum := "d3fc04a8e53f7a39d0db74dfb59fd9b01d6da550f2751ab8841c30cdae162c49", func := "timesync/timesynclaw41.BoundaryFollows", spec := "boundaryFollows", unfollowed := true, recurses := true, apart := false, narrowed := true }
def BoundaryFollowsUptoSaid : Prop := boundaryFollowsUptoRow.holds Try.pinned (OpenSpec.upto boundaryFollowsSpec)

/-- 'timesynclaw41.BoundarySends', WHERE WHAT IT READS IS OF BULK AT MOST 1048576: true; the input reads as it did. -/
def boundarySendsUptoRow : OpenClaim := { program := "ytfbmlpdomfchpaa", sum := "d3fc04a8e53f7a39d0db74dfb59fd9b01d6da550f2751ab8841c30cdae162c49", func := "timesync/timesynclaw41.BoundarySends", spec := "boundarySends", unfollowed := true, recurses := true, apart := false, narrowed := true }
def BoundarySendsUptoSaid : Prop := boundarySendsUptoRow.holds Try.pinned (OpenSpec.upto boundarySendsSpec)

/-- 'timesynclaw41.BoundaryNobody', WHERE WHAT IT READS IS OF BULK AT MOST 1048576: true; the input reads as it did. -/
def boundaryNobodyUptoRow : OpenClaim := { program := "ytfbmlpdomfchpaa", sum := "d3fc04a8e53f7a39d0db74dfb59fd9b01d6da550f2751ab8841c30cdae162c49", func := "timesync/timesynclaw41.BoundaryNobody", spec := "boundaryNobody", unfollowed := true, recurses := true, apart := false, narrowed := true }
def BoundaryNobodyUptoSaid : Prop := boundaryNobodyUptoRow.holds Try.pinned (OpenSpec.upto boundaryNobodySpec)

end Rows
end Go.Proofs.Ytfbmlpdomfchpaa
