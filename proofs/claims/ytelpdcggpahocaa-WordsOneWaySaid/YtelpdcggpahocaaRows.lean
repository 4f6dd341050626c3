/-
  No cell of these rows narrows 'for every input' (looked for: loops, veiled, ifaces, maps, wideKeys, modest, calm, conditions, laid).
  DERIVED. THE GIVEN ROWS OF THIS SEAT. 8 by the template 'for every input the law returns true; each argument reads behind the call as it read before'; 0 by the template 'total and deterministic' (their statements: YtelpdcggpahocaaTotals.lean).
  GIVEN WITH THE SEED: the statements are not yours to turn. If you find one false, say at which input.
  Laid BY PROGRAM, IN A SANDBOX (cutbox-rows.mjs): the forced cells as the released guide's own fill.sh prints them over the translation 739722006f700402… (all of the seat's roots in one cut). By AI agents, Wed Nov 11 2026. No macro, syntax, notation, axiom, sorry.
-/
import Derived.Test.YtelpdcggpahocaaChecked
import GoSem.Claim
import GoSem.ClaimJoined
import GoSem.ClaimMapViews
import Derived.JoinedTies
import Derived.KernelRfl
namespace Go.Proofs.Ytelpdcggpahocaa
/- THE CELL 'sum', in the pinned program and in every row, IS THE sha256 OF THE DUMP (.gsa) THAT YtelpdcggpahocaaProg.lean LOADS. Nothing in Lean hashes anything: it is a label: what it is worth is what the hold of that sum in a sandbox is worth. -/
noncomputable def Try.pinned : Pinned := { name := "ytelpdcggpahocaa", sum := "739722006f700402ddd2de4bfbb073622e7ee5127535cc15fecb83ab030ae715", checked := Try.checked }
namespace Rows
def none {H : Type} : Left H := { results := [], args := [] }

/-- 'shalelaw01.WordsJoins': WHATEVER THE INPUT: true; the input reads as it did. -/
def wordsJoinsSpec : ChangeSpec := { name := "wordsJoins", fn := fun _ => fun
  | [d1, d2, d3] => { results := [.lit (.bool true)], args := [d1, d2, d3] }
  | _ => none }
def wordsJoinsRow : OpenClaim := { program := "ytelpdcggpahocaa", sum := "739722006f700402ddd2de4bfbb073622e7ee5127535cc15fecb83ab030ae715", func := "shale/shalelaw01.WordsJoins", spec := "wordsJoins", apart := false }
def WordsJoinsSaid : Prop := wordsJoinsRow.holds Try.pinned (OpenSpec.ofChange wordsJoinsSpec)

/-- ITS FALSE NEIGHBOUR: 'it returns false'. Refute it at one input. -/
def wordsJoinsWrong : ChangeSpec := { name := "wordsJoins", fn := fun _ => fun
  | [d1, d2, d3] => { results := [.lit (.bool false)], args := [d1, d2, d3] }
  | _ => none }
def WordsJoinsWrongFalsely : Prop := wordsJoinsRow.holds Try.pinned (OpenSpec.ofChange wordsJoinsWrong)

/-- 'shalelaw01.WordsGets': WHATEVER THE INPUT: true; the input reads as it did. -/
def wordsGetsSpec : ChangeSpec := { name := "wordsGets", fn := fun _ => fun
  | [d1, d2, d3] => { results := [.lit (.bool true)], args := [d1, d2, d3] }
  | _ => none }
def wordsGetsRow : OpenClaim := { program := "ytelpdcggpahocaa", sum := "739722006f700402ddd2de4bfbb073622e7ee5127535cc15fecb83ab030ae715", func := "shale/shalelaw01.WordsGets", spec := "wordsGets", apart := false }
def WordsGetsSaid : Prop := wordsGetsRow.holds Try.pinned (OpenSpec.ofChange wordsGetsSpec)

/-- ITS FALSE NEIGHBOUR: 'it returns false'. Refute it at one input. -/
def wordsGetsWrong : ChangeSpec := { name := "wordsGets", fn := fun _ => fun
  | [d1, d2, d3] => { results := [.lit (.bool false)], args := [d1, d2, d3] }
  | _ => none }
def WordsGetsWrongFalsely : Prop := wordsGetsRow.holds Try.pinned (OpenSpec.ofChange wordsGetsWrong)

/-- 'shalelaw01.WordsBits': WHATEVER THE INPUT: true; the input reads as it did. -/
def wordsBitsSpec : ChangeSpec := { name := "wordsBits", fn := fun _ => fun
  | [d1, d2] => { results := [.lit (.bool true)], args := [d1, d2] }
  | _ => none }
def wordsBitsRow : OpenClaim := { program := "ytelpdcggpahocaa", sum := "739722006f700402ddd2de4bfbb073622e7ee5127535cc15fecb83ab030ae715", func := "shale/shalelaw01.WordsBits", spec := "wordsBits", apart := false }
def WordsBitsSaid : Prop := wordsBitsRow.holds Try.pinned (OpenSpec.ofChange wordsBitsSpec)

/-- ITS FALSE NEIGHBOUR: 'it returns false'. Refute it at one input. -/
def wordsBitsWrong : ChangeSpec := { name := "wordsBits", fn := fun _ => fun
  | [d1, d2] => { results := [.lit (.bool false)], args := [d1, d2] }
  | _ => none }
def WordsBitsWrongFalsely : Prop := wordsBitsRow.holds Try.pinned (OpenSpec.ofChange wordsBitsWrong)

/-- 'shalelaw01.WordsDigits': WHATEVER THE INPUT: true; the input reads as it did. -/
def wordsDigitsSpec : ChangeSpec := { name := "wordsDigits", fn := fun _ => fun
  | [d1, d2] => { results := [.lit (.bool true)], args := [d1, d2] }
  | _ => none }
def wordsDigitsRow : OpenClaim := { program := "ytelpdcggpahocaa", sum := "739722006f700402ddd2de4bfbb073622e7ee5127535cc15fecb83ab030ae715", func := "shale/shalelaw01.WordsDigits", spec := "wordsDigits", apart := false }
def WordsDigitsSaid : Prop := wordsDigitsRow.holds Try.pinned (OpenSpec.ofChange wordsDigitsSpec)

/-- ITS FALSE NEIGHBOUR: 'it returns false'. Refute it at one input. -/
def wordsDigitsWrong : ChangeSpec := { name := "wordsDigits", fn := fun _ => fun
  | [d1, d2] => { results := [.lit (.bool false)], args := [d1, d2] }
  | _ => none }
def WordsDigitsWrongFalsely : Prop := wordsDigitsRow.holds Try.pinned (OpenSpec.ofChange wordsDigitsWrong)

/-- 'shalelaw01.WordsPuts': WHATEVER THE INPUT: true; the input reads as it did. -/
def wordsPutsSpec : ChangeSpec := { name := "wordsPuts", fn := fun _ => fun
  | [d1, d2, d3, d4] => { results := [.lit (.bool true)], args := [d1, d2, d3, d4] }
  | _ => none }
def wordsPutsRow : OpenClaim := { program := "ytelpdcggpahocaa", sum := "739722006f700402ddd2de4bfbb073622e7ee5127535cc15fecb83ab030ae715", func := "shale/shalelaw01.WordsPuts", spec := "wordsPuts", apart := false }
def WordsPutsSaid : Prop := wordsPutsRow.holds Try.pinned (OpenSpec.ofChange wordsPutsSpec)

/-- ITS FALSE NEIGHBOUR: 'it returns false'. Refute it at one input. -/
def wordsPutsWrong : ChangeSpec := { name := "wordsPuts", fn := fun _ => fun
  | [d1, d2, d3, d4] => { results := [.lit (.bool false)], args := [d1, d2, d3, d4] }
  | _ => none }
def WordsPutsWrongFalsely : Prop := wordsPutsRow.holds Try.pinned (OpenSpec.ofChange wordsPutsWrong)

/-- 'shalelaw01.WordsFalls': WHATEVER THE INPUT: true; the input reads as it did. -/
def wordsFallsSpec : ChangeSpec := { name := "wordsFalls", fn := fun _ => fun
  | [d1, d2, d3, d4] => { results := [.lit (.bool true)], args := [d1, d2, d3, d4] }
  | _ => none }
def wordsFallsRow : OpenClaim := { program := "ytelpdcggpahocaa", sum := "739722006f700402ddd2de4bfbb073622e7ee5127535cc15fecb83ab030ae715", func := "shale/shalelaw01.WordsFalls", spec := "wordsFalls", apart := false }
def WordsFallsSaid : Prop := wordsFallsRow.holds Try.pinned (OpenSpec.ofChange wordsFallsSpec)

/-- ITS FALSE NEIGHBOUR: 'it returns false'. Refute it at one input. -/
def wordsFallsWrong : ChangeSpec := { name := "wordsFalls", fn := fun _ => fun
  | [d1, d2, d3, d4] => { results := [.lit (.bool false)], args := [d1, d2, d3, d4] }
  | _ => none }
def WordsFallsWrongFalsely : Prop := wordsFallsRow.holds Try.pinned (OpenSpec.ofChange wordsFallsWrong)

/-- 'shalelaw01.WordsThere': WHATEVER THE INPUT: true; the input reads as it did. -/
def wordsThereSpec : ChangeSpec := { name := "wordsThere", fn := fun _ => fun
  | [d1, d2, d3, d4] => { results := [.lit (.bool true)], args := [d1, d2, d3, d4] }
  | _ => none }
def wordsThereRow : OpenClaim := { program := "ytelpdcggpahocaa", sum := "739722006f700402ddd2de4bfbb073622e7ee5127535cc15fecb83ab030ae715", func := "shale/shalelaw01.WordsThere", spec := "wordsThere", apart := false }
def WordsThereSaid : Prop := wordsThereRow.holds Try.pinned (OpenSpec.ofChange wordsThereSpec)

/-- ITS FALSE NEIGHBOUR: 'it returns false'. Refute it at one input. -/
def wordsThereWrong : ChangeSpec := { name := "wordsThere", fn := fun _ => fun
  | [d1, d2, d3, d4] => { results := [.lit (.bool false)], args := [d1, d2, d3, d4] }
  | _ => none }
def WordsThereWrongFalsely : Prop := wordsThereRow.holds Try.pinned (OpenSpec.ofChange wordsThereWrong)

/-- 'shalelaw01.WordsOneWay': WHATEVER THE INPUT: true; the input reads as it did. -/
def wordsOneWaySpec : ChangeSpec := { name := "wordsOneWay", fn := fun _ => fun
  | [d1, d2, d3, d4] => { results := [.lit (.bool true)], args := [d1, d2, d3, d4] }
  | _ => none }
def wordsOneWayRow : OpenClaim := { program := "ytelpdcggpahocaa", sum := "739722006f700402ddd2de4bfbb073622e7ee5127535cc15fecb83ab030ae715", func := "shale/shalelaw01.WordsOneWay", spec := "wordsOneWay", apart := false }
def WordsOneWaySaid : Prop := wordsOneWayRow.holds Try.pinned (OpenSpec.ofChange wordsOneWaySpec)

/-- ITS FALSE NEIGHBOUR: 'it returns false'. Refute it at one input. -/
def wordsOneWayWrong : ChangeSpec := { name := "wordsOneWay", fn := fun _ => fun
  | [d1, d2, d3, d4] => { results := [.lit (.bool false)], args := [d1, d2, d3, d4] }
  | _ => none }
def WordsOneWayWrongFalsely : Prop := wordsOneWayRow.holds Try.pinned (OpenSpec.ofChange wordsOneWayWrong)

/- THE SECOND FORM. 'bulk': how many values and letters a reading holds, each counted each time it is reached (what is shared counts as often as it is met; a slice's spare places count too). A statement '..UptoSaid' is the law's where the arguments, and the package variables that the reading takes, are together of bulk at most 1048576: NARROWER than '..Said'. Prove '..Said' where nothing that the law and all that it calls make is longer than what came in: it says more and counts as full. Else prove '..UptoSaid'. A law counts once. -/
mutual
def uptoBulk {H : Type} : DataW H → Nat
  | .lit (.string bytes) => bytes.length + 1
  | .lit _ => 1
  | .nil => 1
  | .ptr d => uptoBulk d + 1
  | .slice elems spare => uptoBulkAll elems + uptoBulkAll spare + 1
  | .agg parts => uptoBulkAll parts + 1
  | .iface _ d => uptoBulk d + 1
  | .map entries => uptoBulkEntries entries + 1
  | .held _ => 1
def uptoBulkAll {H : Type} : List (DataW H) → Nat
  | [] => 0
  | d :: r => uptoBulk d + uptoBulkAll r
def uptoBulkEntries {H : Type} : List (Lit × DataW H) → Nat
  | [] => 0
  | x :: r => uptoBulkEntry x + uptoBulkEntries r
def uptoBulkEntry {H : Type} : Lit × DataW H → Nat
  | (.string bytes, d) => bytes.length + uptoBulk d + 1
  | (_, d) => uptoBulk d + 1
 end
def uptoSmall : (H : Type) → List (DataW H) → Bool := fun _ ds => decide (uptoBulkAll ds ≤ 1048576)
def OpenSpec.upto (s : _root_.Go.ChangeSpec) : _root_.Go.OpenSpec := { _root_.Go.OpenSpec.ofChange s with cond := some uptoSmall }

/-- 'shalelaw01.WordsJoins', WHERE WHAT IT READS IS OF BULK AT MOST 1048576: true; the input reads as it did. -/
def wordsJoinsUptoRow : OpenClaim := { program := "ytelpdcggpahocaa", sum := "739722006f700402ddd2de4bfbb073622e7ee5127535cc15fecb83ab030ae715", func := "shale/shalelaw01.WordsJoins", spec := "wordsJoins", apart := false, narrowed := true }
def WordsJoinsUptoSaid : Prop := wordsJoinsUptoRow.holds Try.pinned (OpenSpec.upto wordsJoinsSpec)

/-- 'shalelaw01.WordsGets', WHERE WHAT IT READS IS OF BULK AT MOST 1048576: true; the input reads as it did. -/
def wordsGetsUptoRow : OpenClaim := { program := "ytelpdcggpahocaa", sum := "739722006f700402ddd2de4bfbb073622e7ee5127535cc15fecb83ab030ae715", func := "shale/shalelaw01.WordsGets", spec := "wordsGets", apart := false, narrowed := true }
def WordsGetsUptoSaid : Prop := wordsGetsUptoRow.holds Try.pinned (OpenSpec.upto wordsGetsSpec)

/-- 'shalelaw01.WordsBits', WHERE WHAT IT READS IS OF BULK AT MOST 1048576: true; the input reads as it did. -/
def wordsBitsUptoRow : OpenClaim := { program := "ytelpdcggpahocaa", sum := "739722006f700402ddd2de4bfbb073622e7ee5127535cc15fecb83ab030ae715", func := "shale/shalelaw01.WordsBits", spec := "wordsBits", apart := false, narrowed := true }
def WordsBitsUptoSaid : Prop := wordsBitsUptoRow.holds Try.pinned (OpenSpec.upto wordsBitsSpec)

/-- 'shalelaw01.WordsDigits', WHERE WHAT IT READS IS OF BULK AT MOST 1048576: true; the input reads as it did. -/
def wordsDigitsUptoRow : OpenClaim := { program := "ytelpdcggpahocaa", sum := "739722006f700402ddd2de4bfbb073622e7ee5127535cc15fecb83ab030ae715", func := "shale/shalelaw01.WordsDigits", spec := "wordsDigits", apart := false, narrowed := true }
def WordsDigitsUptoSaid : Prop := wordsDigitsUptoRow.holds Try.pinned (OpenSpec.upto wordsDigitsSpec)

/-- 'shalelaw01.WordsPuts', WHERE WHAT IT READS IS OF BULK AT MOST 1048576: true; the input reads as it did. -/
def wordsPutsUptoRow : OpenClaim := { program := "ytelpdcggpahocaa", sum := "739722006f700402ddd2de4bfbb073622e7ee5127535cc15fecb83ab030ae715", func := "shale/shalelaw01.WordsPuts", spec := "wordsPuts", apart := false, narrowed := true }
def WordsPutsUptoSaid : Prop := wordsPutsUptoRow.holds Try.pinned (OpenSpec.upto wordsPutsSpec)

/-- 'shalelaw01.WordsFalls', WHERE WHAT IT READS IS OF BULK AT MOST 1048576: true; the input reads as it did. -/
def wordsFallsUptoRow : OpenClaim := { program := "ytelpdcggpahocaa", sum := "739722006f700402ddd2de4bfbb073622e7ee5127535cc15fecb83ab030ae715", func := "shale/shalelaw01.WordsFalls", spec := "wordsFalls", apart := false, narrowed := true }
def WordsFallsUptoSaid : Prop := wordsFallsUptoRow.holds Try.pinned (OpenSpec.upto wordsFallsSpec)

/-- 'shalelaw01.WordsThere', WHERE WHAT IT READS IS OF BULK AT MOST 1048576: true; the input reads as it did. -/
def wordsThereUptoRow : OpenClaim := { program := "ytelpdcggpahocaa", sum := "739722006f700402ddd2de4bfbb073622e7ee5127535cc15fecb83ab030ae715", func := "shale/shalelaw01.WordsThere", spec := "wordsThere", apart := false, narrowed := true }
def WordsThereUptoSaid : Prop := wordsThereUptoRow.holds Try.pinned (OpenSpec.upto wordsThereSpec)

/-- 'shalelaw01.WordsOneWay', WHERE WHAT IT READS IS OF BULK AT MOST 1048576: true; the input reads as it did. -/
def wordsOneWayUptoRow : OpenClaim := { program := "ytelpdcggpahocaa", sum := "739722006f700402ddd2de4bfbb073622e7ee5127535cc15fecb83ab030ae715", func := "shale/shalelaw01.WordsOneWay", spec := "wordsOneWay", apart := false, narrowed := true }
def WordsOneWayUptoSaid : Prop := wordsOneWayUptoRow.holds Try.pinned (OpenSpec.upto wordsOneWaySpec)

end Rows
end Go.Proofs.Ytelpdcggpahocaa
