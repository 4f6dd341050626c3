/-
  No cell of these rows narrows 'for every input' (looked for: loops, veiled, ifaces, maps, wideKeys, modest, calm, conditions, laid).
  DERIVED. THE GIVEN ROWS OF THIS SEAT. 6 by the template 'for every input the law returns true; each argument reads behind the call as it read before'; 0 by the template 'total and deterministic' (their statements: YtagfcndpblekkaaTotals.lean).
  GIVEN WITH THE SEED: the statements are not yours to turn. If you find one false, say at which input.
  Laid BY PROGRAM, IN A SANDBOX (cutbox-rows.mjs): the forced cells as the released guide's own fill.sh prints them over the translation b3d8ac3801601be1… (all of the seat's roots in one cut). By AI agents, Wed Nov 11 2026. No macro, syntax, notation, axiom, sorry.
-/
import Derived.Test.YtagfcndpblekkaaChecked
import GoSem.Claim
import GoSem.ClaimJoined
import GoSem.ClaimMapViews
import Derived.JoinedTies
import Derived.KernelRfl
namespace Go.Proofs.Ytagfcndpblekkaa
/- THE CELL 'sum', in the pinned program and in every row, IS THE sha256 OF THE DUMP (.gsa) THAT YtagfcndpblekkaaProg.lean LOADS. Nothing in Lean hashes anything: it is a label: what it is worth is what the hold of that sum in a sandbox is worth. -/
noncomputable def Try.pinned : Pinned := { name := "ytagfcndpblekkaa", sum := "b3d8ac3801601be17923c39f90780ee115dc84b2475e8d1090c565fb0764e097", checked := Try.checked }
namespace Rows
def none {H : Type} : Left H := { results := [], args := [] }

/-- 'shalelaw05.JudgeSees': WHATEVER THE INPUT: true; the input reads as it did. -/
def judgeSeesSpec : ChangeSpec := { name := "judgeSees", fn := fun _ => fun
  | [d1, d2, d3, d4, d5] => { results := [.lit (.bool true)], args := [d1, d2, d3, d4, d5] }
  | _ => none }
def judgeSeesRow : OpenClaim := { program := "ytagfcndpblekkaa", sum := "b3d8ac3801601be17923c39f90780ee115dc84b2475e8d1090c565fb0764e097", func := "shale/shalelaw05.JudgeSees", spec := "judgeSees", plainKeys := false, apart := false }
def JudgeSeesSaid : Prop := judgeSeesRow.holds Try.pinned (OpenSpec.ofChange judgeSeesSpec)

/-- ITS FALSE NEIGHBOUR: 'it returns false'. Refute it at one input. -/
def judgeSeesWrong : ChangeSpec := { name := "judgeSees", fn := fun _ => fun
  | [d1, d2, d3, d4, d5] => { results := [.lit (.bool false)], args := [d1, d2, d3, d4, d5] }
  | _ => none }
def JudgeSeesWrongFalsely : Prop := judgeSeesRow.holds Try.pinned (OpenSpec.ofChange judgeSeesWrong)

/-- 'shalelaw05.JudgeChecks': WHATEVER THE INPUT: true; the input reads as it did. -/
def judgeChecksSpec : ChangeSpec := { name := "judgeChecks", fn := fun _ => fun
  | [d1, d2, d3, d4] => { results := [.lit (.bool true)], args := [d1, d2, d3, d4] }
  | _ => none }
def judgeChecksRow : OpenClaim := { program := "ytagfcndpblekkaa", sum := "b3d8ac3801601be17923c39f90780ee115dc84b2475e8d1090c565fb0764e097", func := "shale/shalelaw05.JudgeChecks", spec := "judgeChecks", plainKeys := false, apart := false }
def JudgeChecksSaid : Prop := judgeChecksRow.holds Try.pinned (OpenSpec.ofChange judgeChecksSpec)

/-- ITS FALSE NEIGHBOUR: 'it returns false'. Refute it at one input. -/
def judgeChecksWrong : ChangeSpec := { name := "judgeChecks", fn := fun _ => fun
  | [d1, d2, d3, d4] => { results := [.lit (.bool false)], args := [d1, d2, d3, d4] }
  | _ => none }
def JudgeChecksWrongFalsely : Prop := judgeChecksRow.holds Try.pinned (OpenSpec.ofChange judgeChecksWrong)

/-- 'shalelaw05.JudgeTurns': WHATEVER THE INPUT: true; the input reads as it did. -/
def judgeTurnsSpec : ChangeSpec := { name := "judgeTurns", fn := fun _ => fun
  | [d1, d2, d3, d4, d5] => { results := [.lit (.bool true)], args := [d1, d2, d3, d4, d5] }
  | _ => none }
def judgeTurnsRow : OpenClaim := { program := "ytagfcndpblekkaa", sum := "b3d8ac3801601be17923c39f90780ee115dc84b2475e8d1090c565fb0764e097", func := "shale/shalelaw05.JudgeTurns", spec := "judgeTurns", plainKeys := false, apart := false }
def JudgeTurnsSaid : Prop := judgeTurnsRow.holds Try.pinned (OpenSpec.ofChange judgeTurnsSpec)

/-- ITS FALSE NEIGHBOUR: 'it returns false'. Refute it at one input. -/
def judgeTurnsWrong : ChangeSpec := { name := "judgeTurns", fn := fun _ => fun
  | [d1, d2, d3, d4, d5] => { results := [.lit (.bool false)], args := [d1, d2, d3, d4, d5] }
  | _ => none }
def JudgeTurnsWrongFalsely : Prop := judgeTurnsRow.holds Try.pinned (OpenSpec.ofChange judgeTurnsWrong)

/-- 'shalelaw05.JudgeFronts': WHATEVER THE INPUT: true; the input reads as it did. -/
def judgeFrontsSpec : ChangeSpec := { name := "judgeFronts", fn := fun _ => fun
  | [d1, d2, d3, d4, d5, d6, d7] => { results := [.lit (.bool true)], args := [d1, d2, d3, d4, d5, d6, d7] }
  | _ => none }
def judgeFrontsRow : OpenClaim := { program := "ytagfcndpblekkaa", sum := "b3d8ac3801601be17923c39f90780ee115dc84b2475e8d1090c565fb0764e097", func := "shale/shalelaw05.JudgeFronts", spec := "judgeFronts", plainKeys := false, apart := false }
def JudgeFrontsSaid : Prop := judgeFrontsRow.holds Try.pinned (OpenSpec.ofChange judgeFrontsSpec)

/-- ITS FALSE NEIGHBOUR: 'it returns false'. Refute it at one input. -/
def judgeFrontsWrong : ChangeSpec := { name := "judgeFronts", fn := fun _ => fun
  | [d1, d2, d3, d4, d5, d6, d7] => { results := [.lit (.bool false)], args := [d1, d2, d3, d4, d5, d6, d7] }
  | _ => none }
def JudgeFrontsWrongFalsely : Prop := judgeFrontsRow.holds Try.pinned (OpenSpec.ofChange judgeFrontsWrong)

/-- 'shalelaw05.JudgeLess': WHATEVER THE INPUT: true; the input reads as it did. -/
def judgeLessSpec : ChangeSpec := { name := "judgeLess", fn := fun _ => fun
  | [d1, d2, d3, d4, d5, d6, d7] => { results := [.lit (.bool true)], args := [d1, d2, d3, d4, d5, d6, d7] }
  | _ => none }
def judgeLessRow : OpenClaim := { program := "ytagfcndpblekkaa", sum := "b3d8ac3801601be17923c39f90780ee115dc84b2475e8d1090c565fb0764e097", func := "shale/shalelaw05.JudgeLess", spec := "judgeLess", plainKeys := false, apart := false }
def JudgeLessSaid : Prop := judgeLessRow.holds Try.pinned (OpenSpec.ofChange judgeLessSpec)

/-- ITS FALSE NEIGHBOUR: 'it returns false'. Refute it at one input. -/
def judgeLessWrong : ChangeSpec := { name := "judgeLess", fn := fun _ => fun
  | [d1, d2, d3, d4, d5, d6, d7] => { results := [.lit (.bool false)], args := [d1, d2, d3, d4, d5, d6, d7] }
  | _ => none }
def JudgeLessWrongFalsely : Prop := judgeLessRow.holds Try.pinned (OpenSpec.ofChange judgeLessWrong)

/-- 'shalelaw05.JudgeChip': WHATEVER THE INPUT: true; the input reads as it did. -/
def judgeChipSpec : ChangeSpec := { name := "judgeChip", fn := fun _ => fun
  | [d1, d2, d3, d4] => { results := [.lit (.bool true)], args := [d1, d2, d3, d4] }
  | _ => none }
def judgeChipRow : OpenClaim := { program := "ytagfcndpblekkaa", sum := "b3d8ac3801601be17923c39f90780ee115dc84b2475e8d1090c565fb0764e097", func := "shale/shalelaw05.JudgeChip", spec := "judgeChip", plainKeys := false, apart := false }
def JudgeChipSaid : Prop := judgeChipRow.holds Try.pinned (OpenSpec.ofChange judgeChipSpec)

/-- ITS FALSE NEIGHBOUR: 'it returns false'. Refute it at one input. -/
def judgeChipWrong : ChangeSpec := { name := "judgeChip", fn := fun _ => fun
  | [d1, d2, d3, d4] => { results := [.lit (.bool false)], args := [d1, d2, d3, d4] }
  | _ => none }
def JudgeChipWrongFalsely : Prop := judgeChipRow.holds Try.pinned (OpenSpec.ofChange judgeChipWrong)

/- THE SECOND FORM. 'bulk': how many values and letters a reading holds, each counted each time it is reached (what is shared counts as often as it is met; a slice's spare places count too). A statement '..UptoSaid' is the law's where the arguments, and the package variables that the reading takes, are together of bulk at most 1048576: NARROWER than '..Said'. Prove '..Said' where nothing that the law and all that it calls make is longer than what came in: it says more and counts as full. Else prove '..UptoSaid'. A law counts once. -/
mutual
def uptoBulk {H : Type} : DataW H → Nat
  | .lit (.string bytes) => bytes.length + 1
  | .lit _ => 1
  | .nil => 1
  | .ptr d => uptoBulk d + 1
  | .slice elems spare => uptoBulkAll elems + uptoBulkAll spare + 1
  | .agg parts => uptoBulkAll parts + 1
  | .iface _ d => uptoBulk d + 1
  | .map entries => uptoBulkEntries entries + 1
  | .held _ => 1
def uptoBulkAll {H : Type} : List (DataW H) → Nat
  | [] => 0
  | d :: r => uptoBulk d + uptoBulkAll r
def uptoBulkEntries {H : Type} : List (Lit × DataW H) → Nat
  | [] => 0
  | x :: r => uptoBulkEntry x + uptoBulkEntries r
def uptoBulkEntry {H : Type} : Lit × DataW H → Nat
  | (.string bytes, d) => bytes.length + uptoBulk d + 1
  | (_, d) => uptoBulk d + 1
 end
def uptoSmall : (H : Type) → List (DataW H) → Bool := fun _ ds => decide (uptoBulkAll ds ≤ 1048576)
def OpenSpec.upto (s : _root_.Go.ChangeSpec) : _root_.Go.OpenSpec := { _root_.Go.OpenSpec.ofChange s with cond := some uptoSmall }

/-- 'shalelaw05.JudgeSees', WHERE WHAT IT READS IS OF BULK AT MOST 1048576: true; the input reads as it did. -/
def judgeSeesUptoRow : OpenClaim := { program := "ytagfcndpblekkaa", sum := "b3d8ac3801601be17923c39f90780ee115dc84b2475e8d1090c565fb0764e097", func := "shale/shalelaw05.JudgeSees", spec := "judgeSees", plainKeys := false, apart := false, narrowed := true }
def JudgeSeesUptoSaid : Prop := judgeSeesUptoRow.holds Try.pinned (OpenSpec.upto judgeSeesSpec)

/-- 'shalelaw05.JudgeChecks', WHERE WHAT IT READS IS OF BULK AT MOST 1048576: true; the input reads as it did. -/
def judgeChecksUptoRow : OpenClaim := { program := "ytagfcndpblekkaa", sum := "b3d8ac3801601be17923c39f90780ee115dc84b2475e8d1090c565fb0764e097", func := "shale/shalelaw05.JudgeChecks", spec := "judgeChecks", plainKeys := false, apart := false, narrowed := true }
def JudgeChecksUptoSaid : Prop := judgeChecksUptoRow.holds Try.pinned (OpenSpec.upto judgeChecksSpec)

/-- 'shalelaw05.JudgeTurns', WHERE WHAT IT READS IS OF BULK AT MOST 1048576: true; the input reads as it did. -/
def judgeTurnsUptoRow : OpenClaim := { program := "ytagfcndpblekkaa", sum := "b3d8ac3801601be17923c39f90780ee115dc84b2475e8d1090c565fb0764e097", func := "shale/shalelaw05.JudgeTurns", spec := "judgeTurns", plainKeys := false, apart := false, narrowed := true }
def JudgeTurnsUptoSaid : Prop := judgeTurnsUptoRow.holds Try.pinned (OpenSpec.upto judgeTurnsSpec)

/-- 'shalelaw05.JudgeFronts', WHERE WHAT IT READS IS OF BULK AT MOST 1048576: true; the input reads as it did. -/
def judgeFrontsUptoRow : OpenClaim := { program := "ytagfcndpblekkaa", sum := "b3d8ac3801601be17923c39f90780ee115dc84b2475e8d1090c565fb0764e097", func := "shale/shalelaw05.JudgeFronts", spec := "judgeFronts", plainKeys := false, apart := false, narrowed := true }
def JudgeFrontsUptoSaid : Prop := judgeFrontsUptoRow.holds Try.pinned (OpenSpec.upto judgeFrontsSpec)

/-- 'shalelaw05.JudgeLess', WHERE WHAT IT READS IS OF BULK AT MOST 1048576: true; the input reads as it did. -/
def judgeLessUptoRow : OpenClaim := { program := "ytagfcndpblekkaa", sum := "b3d8ac3801601be17923c39f90780ee115dc84b2475e8d1090c565fb0764e097", func := "shale/shalelaw05.JudgeLess", spec := "judgeLess", plainKeys := false, apart := false, narrowed := true }
def JudgeLessUptoSaid : Prop := judgeLessUptoRow.holds Try.pinned (OpenSpec.upto judgeLessSpec)

/-- 'shalelaw05.JudgeChip', WHERE WHAT IT READS IS OF BULK AT MOST 1048576: true; the input reads as it did. -/
def judgeChipUptoRow : OpenClaim := { program := "ytagfcndpblekkaa", sum := "b3d8ac3801601be17923c39f90780ee115dc84b2475e8d1090c565fb0764e097", func := "shale/shalelaw05.JudgeChip", spec := "judgeChip", plainKeys := false, apart := false, narrowed := true }
def JudgeChipUptoSaid : Prop := judgeChipUptoRow.holds Try.pinned (OpenSpec.upto judgeChipSpec)

end Rows
end Go.Proofs.Ytagfcndpblekkaa
