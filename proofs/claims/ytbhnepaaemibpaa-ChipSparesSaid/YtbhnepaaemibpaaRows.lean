/-
  No cell of these rows narrows 'for every input' (looked for: loops, veiled, ifaces, maps, wideKeys, modest, calm, conditions, laid).
  DERIVED. THE GIVEN ROWS OF THIS SEAT. 7 by the template 'for every input the law returns true; each argument reads behind the call as it read before'; 0 by the template 'total and deterministic' (their statements: YtbhnepaaemibpaaTotals.lean).
  GIVEN WITH THE SEED: the statements are not yours to turn. If you find one false, say at which input.
  Laid BY PROGRAM, IN A SANDBOX (cutbox-rows.mjs): the forced cells as the released guide's own fill.sh prints them over the translation 3619938083371f59… (all of the seat's roots in one cut). By AI agents, Wed Nov 11 2026. No macro, syntax, notation, axiom, sorry.
-/
import Derived.Test.YtbhnepaaemibpaaChecked
import GoSem.Claim
import GoSem.ClaimJoined
import GoSem.ClaimMapViews
import Derived.JoinedTies
import Derived.KernelRfl
namespace Go.Proofs.Ytbhnepaaemibpaa
/- THE CELL 'sum', in the pinned program and in every row, IS THE sha256 OF THE DUMP (.gsa) THAT YtbhnepaaemibpaaProg.lean LOADS. Nothing in Lean hashes anything: it is a label: what it is worth is what the hold of that sum in a sandbox is worth. -/
noncomputable def Try.pinned : Pinned := { name := "ytbhnepaaemibpaa", sum := "3619938083371f59e145485e7fafdd616157b1b839890b0789dbfcf1d37c481b", checked := Try.checked }
namespace Rows
def none {H : Type} : Left H := { results := [], args := [] }

/-- 'shalelaw04.ChipSpares': WHATEVER THE INPUT: true; the input reads as it did. -/
def chipSparesSpec : ChangeSpec := { name := "chipSpares", fn := fun _ => fun
  | [d] => { results := [.lit (.bool true)], args := [d] }
  | _ => none }
def chipSparesRow : OpenClaim := { program := "ytbhnepaaemibpaa", sum := "3619938083371f59e145485e7fafdd616157b1b839890b0789dbfcf1d37c481b", func := "shale/shalelaw04.ChipSpares", spec := "chipSpares", plainKeys := false, apart := false }
def ChipSparesSaid : Prop := chipSparesRow.holds Try.pinned (OpenSpec.ofChange chipSparesSpec)

/-- ITS FALSE NEIGHBOUR: 'it returns false'. Refute it at one input. -/
def chipSparesWrong : ChangeSpec := { name := "chipSpares", fn := fun _ => fun
  | [d] => { results := [.lit (.bool false)], args := [d] }
  | _ => none }
def ChipSparesWrongFalsely : Prop := chipSparesRow.holds Try.pinned (OpenSpec.ofChange chipSparesWrong)

/-- 'shalelaw04.ChipOneWay': WHATEVER THE INPUT: true; the input reads as it did. -/
def chipOneWaySpec : ChangeSpec := { name := "chipOneWay", fn := fun _ => fun
  | [d1, d2, d3] => { results := [.lit (.bool true)], args := [d1, d2, d3] }
  | _ => none }
def chipOneWayRow : OpenClaim := { program := "ytbhnepaaemibpaa", sum := "3619938083371f59e145485e7fafdd616157b1b839890b0789dbfcf1d37c481b", func := "shale/shalelaw04.ChipOneWay", spec := "chipOneWay", plainKeys := false, apart := false }
def ChipOneWaySaid : Prop := chipOneWayRow.holds Try.pinned (OpenSpec.ofChange chipOneWaySpec)

/-- ITS FALSE NEIGHBOUR: 'it returns false'. Refute it at one input. -/
def chipOneWayWrong : ChangeSpec := { name := "chipOneWay", fn := fun _ => fun
  | [d1, d2, d3] => { results := [.lit (.bool false)], args := [d1, d2, d3] }
  | _ => none }
def ChipOneWayWrongFalsely : Prop := chipOneWayRow.holds Try.pinned (OpenSpec.ofChange chipOneWayWrong)

/-- 'shalelaw04.ChipHolds': WHATEVER THE INPUT: true; the input reads as it did. -/
def chipHoldsSpec : ChangeSpec := { name := "chipHolds", fn := fun _ => fun
  | [d1, d2, d3] => { results := [.lit (.bool true)], args := [d1, d2, d3] }
  | _ => none }
def chipHoldsRow : OpenClaim := { program := "ytbhnepaaemibpaa", sum := "3619938083371f59e145485e7fafdd616157b1b839890b0789dbfcf1d37c481b", func := "shale/shalelaw04.ChipHolds", spec := "chipHolds", plainKeys := false, apart := false }
def ChipHoldsSaid : Prop := chipHoldsRow.holds Try.pinned (OpenSpec.ofChange chipHoldsSpec)

/-- ITS FALSE NEIGHBOUR: 'it returns false'. Refute it at one input. -/
def chipHoldsWrong : ChangeSpec := { name := "chipHolds", fn := fun _ => fun
  | [d1, d2, d3] => { results := [.lit (.bool false)], args := [d1, d2, d3] }
  | _ => none }
def ChipHoldsWrongFalsely : Prop := chipHoldsRow.holds Try.pinned (OpenSpec.ofChange chipHoldsWrong)

/-- 'shalelaw04.ChipPlays': WHATEVER THE INPUT: true; the input reads as it did. -/
def chipPlaysSpec : ChangeSpec := { name := "chipPlays", fn := fun _ => fun
  | [d1, d2, d3, d4, d5] => { results := [.lit (.bool true)], args := [d1, d2, d3, d4, d5] }
  | _ => none }
def chipPlaysRow : OpenClaim := { program := "ytbhnepaaemibpaa", sum := "3619938083371f59e145485e7fafdd616157b1b839890b0789dbfcf1d37c481b", func := "shale/shalelaw04.ChipPlays", spec := "chipPlays", plainKeys := false, apart := false }
def ChipPlaysSaid : Prop := chipPlaysRow.holds Try.pinned (OpenSpec.ofChange chipPlaysSpec)

/-- ITS FALSE NEIGHBOUR: 'it returns false'. Refute it at one input. -/
def chipPlaysWrong : ChangeSpec := { name := "chipPlays", fn := fun _ => fun
  | [d1, d2, d3, d4, d5] => { results := [.lit (.bool false)], args := [d1, d2, d3, d4, d5] }
  | _ => none }
def ChipPlaysWrongFalsely : Prop := chipPlaysRow.holds Try.pinned (OpenSpec.ofChange chipPlaysWrong)

/-- 'shalelaw04.ChipFaults': WHATEVER THE INPUT: true; the input reads as it did. -/
def chipFaultsSpec : ChangeSpec := { name := "chipFaults", fn := fun _ => fun
  | [d1, d2, d3] => { results := [.lit (.bool true)], args := [d1, d2, d3] }
  | _ => none }
def chipFaultsRow : OpenClaim := { program := "ytbhnepaaemibpaa", sum := "3619938083371f59e145485e7fafdd616157b1b839890b0789dbfcf1d37c481b", func := "shale/shalelaw04.ChipFaults", spec := "chipFaults", plainKeys := false, apart := false }
def ChipFaultsSaid : Prop := chipFaultsRow.holds Try.pinned (OpenSpec.ofChange chipFaultsSpec)

/-- ITS FALSE NEIGHBOUR: 'it returns false'. Refute it at one input. -/
def chipFaultsWrong : ChangeSpec := { name := "chipFaults", fn := fun _ => fun
  | [d1, d2, d3] => { results := [.lit (.bool false)], args := [d1, d2, d3] }
  | _ => none }
def ChipFaultsWrongFalsely : Prop := chipFaultsRow.holds Try.pinned (OpenSpec.ofChange chipFaultsWrong)

/-- 'shalelaw04.ChipImages': WHATEVER THE INPUT: true; the input reads as it did. -/
def chipImagesSpec : ChangeSpec := { name := "chipImages", fn := fun _ => fun
  | [d1, d2, d3, d4] => { results := [.lit (.bool true)], args := [d1, d2, d3, d4] }
  | _ => none }
def chipImagesRow : OpenClaim := { program := "ytbhnepaaemibpaa", sum := "3619938083371f59e145485e7fafdd616157b1b839890b0789dbfcf1d37c481b", func := "shale/shalelaw04.ChipImages", spec := "chipImages", plainKeys := false, apart := false }
def ChipImagesSaid : Prop := chipImagesRow.holds Try.pinned (OpenSpec.ofChange chipImagesSpec)

/-- ITS FALSE NEIGHBOUR: 'it returns false'. Refute it at one input. -/
def chipImagesWrong : ChangeSpec := { name := "chipImages", fn := fun _ => fun
  | [d1, d2, d3, d4] => { results := [.lit (.bool false)], args := [d1, d2, d3, d4] }
  | _ => none }
def ChipImagesWrongFalsely : Prop := chipImagesRow.holds Try.pinned (OpenSpec.ofChange chipImagesWrong)

/-- 'shalelaw04.ChipLoads': WHATEVER THE INPUT: true; the input reads as it did. -/
def chipLoadsSpec : ChangeSpec := { name := "chipLoads", fn := fun _ => fun
  | [d1, d2, d3] => { results := [.lit (.bool true)], args := [d1, d2, d3] }
  | _ => none }
def chipLoadsRow : OpenClaim := { program := "ytbhnepaaemibpaa", sum := "3619938083371f59e145485e7fafdd616157b1b839890b0789dbfcf1d37c481b", func := "shale/shalelaw04.ChipLoads", spec := "chipLoads", plainKeys := false, apart := false }
def ChipLoadsSaid : Prop := chipLoadsRow.holds Try.pinned (OpenSpec.ofChange chipLoadsSpec)

/-- ITS FALSE NEIGHBOUR: 'it returns false'. Refute it at one input. -/
def chipLoadsWrong : ChangeSpec := { name := "chipLoads", fn := fun _ => fun
  | [d1, d2, d3] => { results := [.lit (.bool false)], args := [d1, d2, d3] }
  | _ => none }
def ChipLoadsWrongFalsely : Prop := chipLoadsRow.holds Try.pinned (OpenSpec.ofChange chipLoadsWrong)

/- THE SECOND FORM. 'bulk': how many values and letters a reading holds, each counted each time it is reached (what is shared counts as often as it is met; a slice's spare places count too). A statement '..UptoSaid' is the law's where the arguments, and the package variables that the reading takes, are together of bulk at most 1048576: NARROWER than '..Said'. Prove '..Said' where nothing that the law and all that it calls make is longer than what came in: it says more and counts as full. Else prove '..UptoSaid'. A law counts once. -/
mutual
def uptoBulk {H : Type} : DataW H → Nat
  | .lit (.string bytes) => bytes.length + 1
  | .lit _ => 1
  | .nil => 1
  | .ptr d => uptoBulk d + 1
  | .slice elems spare => uptoBulkAll elems + uptoBulkAll spare + 1
  | .agg parts => uptoBulkAll parts + 1
  | .iface _ d => uptoBulk d + 1
  | .map entries => uptoBulkEntries entries + 1
  | .held _ => 1
def uptoBulkAll {H : Type} : List (DataW H) → Nat
  | [] => 0
  | d :: r => uptoBulk d + uptoBulkAll r
def uptoBulkEntries {H : Type} : List (Lit × DataW H) → Nat
  | [] => 0
  | x :: r => uptoBulkEntry x + uptoBulkEntries r
def uptoBulkEntry {H : Type} : Lit × DataW H → Nat
  | (.string bytes, d) => bytes.length + uptoBulk d + 1
  | (_, d) => uptoBulk d + 1
 end
def uptoSmall : (H : Type) → List (DataW H) → Bool := fun _ ds => decide (uptoBulkAll ds ≤ 1048576)
def OpenSpec.upto (s : _root_.Go.ChangeSpec) : _root_.Go.OpenSpec := { _root_.Go.OpenSpec.ofChange s with cond := some uptoSmall }

/-- 'shalelaw04.ChipSpares', WHERE WHAT IT READS IS OF BULK AT MOST 1048576: true; the input reads as it did. -/
def chipSparesUptoRow : OpenClaim := { program := "ytbhnepaaemibpaa", sum := "3619938083371f59e145485e7fafdd616157b1b839890b0789dbfcf1d37c481b", func := "shale/shalelaw04.ChipSpares", spec := "chipSpares", plainKeys := false, apart := false, narrowed := true }
def ChipSparesUptoSaid : Prop := chipSparesUptoRow.holds Try.pinned (OpenSpec.upto chipSparesSpec)

/-- 'shalelaw04.ChipOneWay', WHERE WHAT IT READS IS OF BULK AT MOST 1048576: true; the input reads as it did. -/
def chipOneWayUptoRow : OpenClaim := { program := "ytbhnepaaemibpaa", sum := "3619938083371f59e145485e7fafdd616157b1b839890b0789dbfcf1d37c481b", func := "shale/shalelaw04.ChipOneWay", spec := "chipOneWay", plainKeys := false, apart := false, narrowed := true }
def ChipOneWayUptoSaid : Prop := chipOneWayUptoRow.holds Try.pinned (OpenSpec.upto chipOneWaySpec)

/-- 'shalelaw04.ChipHolds', WHERE WHAT IT READS IS OF BULK AT MOST 1048576: true; the input reads as it did. -/
def chipHoldsUptoRow : OpenClaim := { program := "ytbhnepaaemibpaa", sum := "3619938083371f59e145485e7fafdd616157b1b839890b0789dbfcf1d37c481b", func := "shale/shalelaw04.ChipHolds", spec := "chipHolds", plainKeys := false, apart := false, narrowed := true }
def ChipHoldsUptoSaid : Prop := chipHoldsUptoRow.holds Try.pinned (OpenSpec.upto chipHoldsSpec)

/-- 'shalelaw04.ChipPlays', WHERE WHAT IT READS IS OF BULK AT MOST 1048576: true; the input reads as it did. -/
def chipPlaysUptoRow : OpenClaim := { program := "ytbhnepaaemibpaa", sum := "3619938083371f59e145485e7fafdd616157b1b839890b0789dbfcf1d37c481b", func := "shale/shalelaw04.ChipPlays", spec := "chipPlays", plainKeys := false, apart := false, narrowed := true }
def ChipPlaysUptoSaid : Prop := chipPlaysUptoRow.holds Try.pinned (OpenSpec.upto chipPlaysSpec)

/-- 'shalelaw04.ChipFaults', WHERE WHAT IT READS IS OF BULK AT MOST 1048576: true; the input reads as it did. -/
def chipFaultsUptoRow : OpenClaim := { program := "ytbhnepaaemibpaa", sum := "3619938083371f59e145485e7fafdd616157b1b839890b0789dbfcf1d37c481b", func := "shale/shalelaw04.ChipFaults", spec := "chipFaults", plainKeys := false, apart := false, narrowed := true }
def ChipFaultsUptoSaid : Prop := chipFaultsUptoRow.holds Try.pinned (OpenSpec.upto chipFaultsSpec)

/-- 'shalelaw04.ChipImages', WHERE WHAT IT READS IS OF BULK AT MOST 1048576: true; the input reads as it did. -/
def chipImagesUptoRow : OpenClaim := { program := "ytbhnepaaemibpaa", sum := "3619938083371f59e145485e7fafdd616157b1b839890b0789dbfcf1d37c481b", func := "shale/shalelaw04.ChipImages", spec := "chipImages", plainKeys := false, apart := false, narrowed := true }
def ChipImagesUptoSaid : Prop := chipImagesUptoRow.holds Try.pinned (OpenSpec.upto chipImagesSpec)

/-- 'shalelaw04.ChipLoads', WHERE WHAT IT READS IS OF BULK AT MOST 1048576: true; the input reads as it did. -/
def chipLoadsUptoRow : OpenClaim := { program := "ytbhnepaaemibpaa", sum := "3619938083371f59e145485e7fafdd616157b1b839890b0789dbfcf1d37c481b", func := "shale/shalelaw04.ChipLoads", spec := "chipLoads", plainKeys := false, apart := false, narrowed := true }
def ChipLoadsUptoSaid : Prop := chipLoadsUptoRow.holds Try.pinned (OpenSpec.upto chipLoadsSpec)

end Rows
end Go.Proofs.Ytbhnepaaemibpaa
