/-
  NARROWER THAN 'FOR EVERY INPUT', by the rows' own cells (each row's printed sentence says how): HammingFixes: laid · HammingOne: laid · HammingTwo: laid · HammingNear: laid · HammingRises: laid.
  DERIVED. THE GIVEN ROWS OF THIS SEAT. 5 by the template 'for every input the law returns true; each argument reads behind the call as it read before'; 0 by the template 'total and deterministic' (their statements: YtafjnkmfebibfaaDoorTotals.lean).
  GIVEN WITH THE SEED: the statements are not yours to turn. If you find one false, say at which input.
  Laid BY PROGRAM, IN A SANDBOX (cutbox-rows.mjs): the forced cells as the released guide's own fill.sh prints them over the translation 5234824e3c3bd0de… (all of the seat's roots in one cut). By AI agents, Wed Nov 11 2026. No macro, syntax, notation, axiom, sorry.
-/
import Derived.Test.YtafjnkmfebibfaaDoorChecked
import GoSem.Claim
import GoSem.ClaimJoined
import GoSem.ClaimMapViews
import Derived.JoinedTies
import Derived.KernelRfl
namespace Go.Proofs.YtafjnkmfebibfaaDoor
/- THE CELL 'sum', in the pinned program and in every row, IS THE sha256 OF THE DUMP (.gsa) THAT YtafjnkmfebibfaaDoorProg.lean LOADS. Nothing in Lean hashes anything: it is a label: what it is worth is what the hold of that sum in a sandbox is worth. -/
noncomputable def Tryd.pinned : Pinned := { name := "ytafjnkmfebibfaadoor", sum := "5234824e3c3bd0de89c190ff77fa14d420fa007c9af313f3b031db7e629e167c", checked := Tryd.checked }
namespace Rows
def none {H : Type} : Left H := { results := [], args := [] }

/- WHAT THE LISTED PACKAGE-LEVEL VARIABLES READ AS WHEN THE CALL BEGINS. Each datum BY PROGRAM (the guide's laid-datum.mjs) off the statement by which the dump's own 'gosem.cut.vars' lays the variable. In a bare row this is a premise. The card (YtafjnkmfebibfaaDoorCards.lean) ties it to the program's text. -/
def laid_math_bits_deBruijn32tab {H : Type} : DataW H := .agg [.lit (.int .u8 0), .lit (.int .u8 1), .lit (.int .u8 28), .lit (.int .u8 2), .lit (.int .u8 29), .lit (.int .u8 14), .lit (.int .u8 24), .lit (.int .u8 3), .lit (.int .u8 30), .lit (.int .u8 22), .lit (.int .u8 20), .lit (.int .u8 15), .lit (.int .u8 25), .lit (.int .u8 17), .lit (.int .u8 4), .lit (.int .u8 8), .lit (.int .u8 31), .lit (.int .u8 27), .lit (.int .u8 13), .lit (.int .u8 23), .lit (.int .u8 21), .lit (.int .u8 19), .lit (.int .u8 16), .lit (.int .u8 7), .lit (.int .u8 26), .lit (.int .u8 12), .lit (.int .u8 18), .lit (.int .u8 6), .lit (.int .u8 11), .lit (.int .u8 5), .lit (.int .u8 10), .lit (.int .u8 9)]

/-- 'shalelaw02.HammingFixes': WHATEVER THE INPUT: true; the input reads as it did. -/
def hammingFixesSpec : ChangeSpec := { name := "hammingFixes", fn := fun _ => fun
  | [d1, d2, d3] => { results := [.lit (.bool true)], args := [d1, d2, d3] }
  | _ => none }
def hammingFixesRow : OpenClaim := { program := "ytafjnkmfebibfaadoor", sum := "5234824e3c3bd0de89c190ff77fa14d420fa007c9af313f3b031db7e629e167c", func := "shale/shalelaw02.HammingFixes", spec := "hammingFixes", named := ["math/bits.deBruijn32tab"], apart := false, laid := [("math/bits.deBruijn32tab", laid_math_bits_deBruijn32tab)] }
def HammingFixesSaid : Prop := hammingFixesRow.holds Tryd.pinned (OpenSpec.ofChange hammingFixesSpec)

/-- ITS FALSE NEIGHBOUR: 'it returns false'. Refute it at one input. -/
def hammingFixesWrong : ChangeSpec := { name := "hammingFixes", fn := fun _ => fun
  | [d1, d2, d3] => { results := [.lit (.bool false)], args := [d1, d2, d3] }
  | _ => none }
def HammingFixesWrongFalsely : Prop := hammingFixesRow.holds Tryd.pinned (OpenSpec.ofChange hammingFixesWrong)

/-- 'shalelaw02.HammingOne': WHATEVER THE INPUT: true; the input reads as it did. -/
def hammingOneSpec : ChangeSpec := { name := "hammingOne", fn := fun _ => fun
  | [d1, d2] => { results := [.lit (.bool true)], args := [d1, d2] }
  | _ => none }
def hammingOneRow : OpenClaim := { program := "ytafjnkmfebibfaadoor", sum := "5234824e3c3bd0de89c190ff77fa14d420fa007c9af313f3b031db7e629e167c", func := "shale/shalelaw02.HammingOne", spec := "hammingOne", named := ["math/bits.deBruijn32tab"], apart := false, laid := [("math/bits.deBruijn32tab", laid_math_bits_deBruijn32tab)] }
def HammingOneSaid : Prop := hammingOneRow.holds Tryd.pinned (OpenSpec.ofChange hammingOneSpec)

/-- ITS FALSE NEIGHBOUR: 'it returns false'. Refute it at one input. -/
def hammingOneWrong : ChangeSpec := { name := "hammingOne", fn := fun _ => fun
  | [d1, d2] => { results := [.lit (.bool false)], args := [d1, d2] }
  | _ => none }
def HammingOneWrongFalsely : Prop := hammingOneRow.holds Tryd.pinned (OpenSpec.ofChange hammingOneWrong)

/-- 'shalelaw02.HammingTwo': WHATEVER THE INPUT: true; the input reads as it did. -/
def hammingTwoSpec : ChangeSpec := { name := "hammingTwo", fn := fun _ => fun
  | [d1, d2, d3] => { results := [.lit (.bool true)], args := [d1, d2, d3] }
  | _ => none }
def hammingTwoRow : OpenClaim := { program := "ytafjnkmfebibfaadoor", sum := "5234824e3c3bd0de89c190ff77fa14d420fa007c9af313f3b031db7e629e167c", func := "shale/shalelaw02.HammingTwo", spec := "hammingTwo", named := ["math/bits.deBruijn32tab"], apart := false, laid := [("math/bits.deBruijn32tab", laid_math_bits_deBruijn32tab)] }
def HammingTwoSaid : Prop := hammingTwoRow.holds Tryd.pinned (OpenSpec.ofChange hammingTwoSpec)

/-- ITS FALSE NEIGHBOUR: 'it returns false'. Refute it at one input. -/
def hammingTwoWrong : ChangeSpec := { name := "hammingTwo", fn := fun _ => fun
  | [d1, d2, d3] => { results := [.lit (.bool false)], args := [d1, d2, d3] }
  | _ => none }
def HammingTwoWrongFalsely : Prop := hammingTwoRow.holds Tryd.pinned (OpenSpec.ofChange hammingTwoWrong)

/-- 'shalelaw02.HammingNear': WHATEVER THE INPUT: true; the input reads as it did. -/
def hammingNearSpec : ChangeSpec := { name := "hammingNear", fn := fun _ => fun
  | [d1, d2] => { results := [.lit (.bool true)], args := [d1, d2] }
  | _ => none }
def hammingNearRow : OpenClaim := { program := "ytafjnkmfebibfaadoor", sum := "5234824e3c3bd0de89c190ff77fa14d420fa007c9af313f3b031db7e629e167c", func := "shale/shalelaw02.HammingNear", spec := "hammingNear", named := ["math/bits.deBruijn32tab"], apart := false, laid := [("math/bits.deBruijn32tab", laid_math_bits_deBruijn32tab)] }
def HammingNearSaid : Prop := hammingNearRow.holds Tryd.pinned (OpenSpec.ofChange hammingNearSpec)

/-- ITS FALSE NEIGHBOUR: 'it returns false'. Refute it at one input. -/
def hammingNearWrong : ChangeSpec := { name := "hammingNear", fn := fun _ => fun
  | [d1, d2] => { results := [.lit (.bool false)], args := [d1, d2] }
  | _ => none }
def HammingNearWrongFalsely : Prop := hammingNearRow.holds Tryd.pinned (OpenSpec.ofChange hammingNearWrong)

/-- 'shalelaw02.HammingRises': WHATEVER THE INPUT: true; the input reads as it did. -/
def hammingRisesSpec : ChangeSpec := { name := "hammingRises", fn := fun _ => fun
  | [d1, d2] => { results := [.lit (.bool true)], args := [d1, d2] }
  | _ => none }
def hammingRisesRow : OpenClaim := { program := "ytafjnkmfebibfaadoor", sum := "5234824e3c3bd0de89c190ff77fa14d420fa007c9af313f3b031db7e629e167c", func := "shale/shalelaw02.HammingRises", spec := "hammingRises", named := ["math/bits.deBruijn32tab"], apart := false, laid := [("math/bits.deBruijn32tab", laid_math_bits_deBruijn32tab)] }
def HammingRisesSaid : Prop := hammingRisesRow.holds Tryd.pinned (OpenSpec.ofChange hammingRisesSpec)

/-- ITS FALSE NEIGHBOUR: 'it returns false'. Refute it at one input. -/
def hammingRisesWrong : ChangeSpec := { name := "hammingRises", fn := fun _ => fun
  | [d1, d2] => { results := [.lit (.bool false)], args := [d1, d2] }
  | _ => none }
def HammingRisesWrongFalsely : Prop := hammingRisesRow.holds Tryd.pinned (OpenSpec.ofChange hammingRisesWrong)

/- THE SECOND FORM. 'bulk': how many values and letters a reading holds, each counted each time it is reached (what is shared counts as often as it is met; a slice's spare places count too). A statement '..UptoSaid' is the law's where the arguments, and the package variables that the reading takes, are together of bulk at most 1048576: NARROWER than '..Said'. Prove '..Said' where nothing that the law and all that it calls make is longer than what came in: it says more and counts as full. Else prove '..UptoSaid'. A law counts once. -/
mutual
def uptoBulk {H : Type} : DataW H → Nat
  | .lit (.string bytes) => bytes.length + 1
  | .lit _ => 1
  | .nil => 1
  | .ptr d => uptoBulk d + 1
  | .slice elems spare => uptoBulkAll elems + uptoBulkAll spare + 1
  | .agg parts => uptoBulkAll parts + 1
  | .iface _ d => uptoBulk d + 1
  | .map entries => uptoBulkEntries entries + 1
  | .held _ => 1
def uptoBulkAll {H : Type} : List (DataW H) → Nat
  | [] => 0
  | d :: r => uptoBulk d + uptoBulkAll r
def uptoBulkEntries {H : Type} : List (Lit × DataW H) → Nat
  | [] => 0
  | x :: r => uptoBulkEntry x + uptoBulkEntries r
def uptoBulkEntry {H : Type} : Lit × DataW H → Nat
  | (.string bytes, d) => bytes.length + uptoBulk d + 1
  | (_, d) => uptoBulk d + 1
 end
def uptoSmall : (H : Type) → List (DataW H) → Bool := fun _ ds => decide (uptoBulkAll ds ≤ 1048576)
def OpenSpec.upto (s : _root_.Go.ChangeSpec) : _root_.Go.OpenSpec := { _root_.Go.OpenSpec.ofChange s with cond := some uptoSmall }

/-- 'shalelaw02.HammingFixes', WHERE WHAT IT READS IS OF BULK AT MOST 1048576: true; the input reads as it did. -/
def hammingFixesUptoRow : OpenClaim := { program := "ytafjnkmfebibfaadoor", sum := "5234824e3c3bd0de89c190ff77fa14d420fa007c9af313f3b031db7e629e167c", func := "shale/shalelaw02.HammingFixes", spec := "hammingFixes", named := ["math/bits.deBruijn32tab"], apart := false, laid := [("math/bits.deBruijn32tab", laid_math_bits_deBruijn32tab)], narrowed := true }
def HammingFixesUptoSaid : Prop := hammingFixesUptoRow.holds Tryd.pinned (OpenSpec.upto hammingFixesSpec)

/-- 'shalelaw02.HammingOne', WHERE WHAT IT READS IS OF BULK AT MOST 1048576: true; the input reads as it did. -/
def hammingOneUptoRow : OpenClaim := { program := "ytafjnkmfebibfaadoor", sum := "5234824e3c3bd0de89c190ff77fa14d420fa007c9af313f3b031db7e629e167c", func := "shale/shalelaw02.HammingOne", spec := "hammingOne", named := ["math/bits.deBruijn32tab"], apart := false, laid := [("math/bits.deBruijn32tab", laid_math_bits_deBruijn32tab)], narrowed := true }
def HammingOneUptoSaid : Prop := hammingOneUptoRow.holds Tryd.pinned (OpenSpec.upto hammingOneSpec)

/-- 'shalelaw02.HammingTwo', WHERE WHAT IT READS IS OF BULK AT MOST 1048576: true; the input reads as it did. -/
def hammingTwoUptoRow : OpenClaim := { program := "ytafjnkmfebibfaadoor", sum := "5234824e3c3bd0de89c190ff77fa14d420fa007c9af313f3b031db7e629e167c", func := "shale/shalelaw02.HammingTwo", spec := "hammingTwo", named := ["math/bits.deBruijn32tab"], apart := false, laid := [("math/bits.deBruijn32tab", laid_math_bits_deBruijn32tab)], narrowed := true }
def HammingTwoUptoSaid : Prop := hammingTwoUptoRow.holds Tryd.pinned (OpenSpec.upto hammingTwoSpec)

/-- 'shalelaw02.HammingNear', WHERE WHAT IT READS IS OF BULK AT MOST 1048576: true; the input reads as it did. -/
def hammingNearUptoRow : OpenClaim := { program := "ytafjnkmfebibfaadoor", sum := "5234824e3c3bd0de89c190ff77fa14d420fa007c9af313f3b031db7e629e167c", func := "shale/shalelaw02.HammingNear", spec := "hammingNear", named := ["math/bits.deBruijn32tab"], apart := false, laid := [("math/bits.deBruijn32tab", laid_math_bits_deBruijn32tab)], narrowed := true }
def HammingNearUptoSaid : Prop := hammingNearUptoRow.holds Tryd.pinned (OpenSpec.upto hammingNearSpec)

/-- 'shalelaw02.HammingRises', WHERE WHAT IT READS IS OF BULK AT MOST 1048576: true; the input reads as it did. -/
def hammingRisesUptoRow : OpenClaim := { program := "ytafjnkmfebibfaadoor", sum := "5234824e3c3bd0de89c190ff77fa14d420fa007c9af313f3b031db7e629e167c", func := "shale/shalelaw02.HammingRises", spec := "hammingRises", named := ["math/bits.deBruijn32tab"], apart := false, laid := [("math/bits.deBruijn32tab", laid_math_bits_deBruijn32tab)], narrowed := true }
def HammingRisesUptoSaid : Prop := hammingRisesUptoRow.holds Tryd.pinned (OpenSpec.upto hammingRisesSpec)

end Rows
end Go.Proofs.YtafjnkmfebibfaaDoor
