/-
  No cell of these rows narrows 'for every input' (looked for: loops, veiled, ifaces, maps, wideKeys, modest, calm, conditions, laid).
  DERIVED. THE GIVEN ROWS OF THIS SEAT. 3 by the template 'for every input the law returns true; each argument reads behind the call as it read before'; 0 by the template 'total and deterministic' (their statements: YtloamkbkcdhaiaaTotals.lean).
  GIVEN WITH THE SEED: the statements are not yours to turn. If you find one false, say at which input.
  Laid BY PROGRAM, IN A SANDBOX (cutbox-rows.mjs): the forced cells as the released guide's own fill.sh prints them over the translation 6ca5ae83b8a87302… (all of the seat's roots in one cut). By AI agents, Wed Nov 11 2026. No macro, syntax, notation, axiom, sorry.
-/
import Derived.Test.YtloamkbkcdhaiaaChecked
import GoSem.Claim
import GoSem.ClaimJoined
import GoSem.ClaimMapViews
import Derived.JoinedTies
import Derived.KernelRfl
namespace Go.Proofs.Ytloamkbkcdhaiaa
/- THE CELL 'sum', in the pinned program and in every row, IS THE sha256 OF THE DUMP (.gsa) THAT YtloamkbkcdhaiaaProg.lean LOADS. Nothing in Lean hashes anything: it is a label: what it is worth is what the hold of that sum in a sandbox is worth. -/
noncomputable def Try.pinned : Pinned := { name := "ytloamkbkcdhaiaa", sum := "6ca5ae83b8a87302cbd1130d1dba42f1215daa9d7293eb5ca841dbf9f6211ab5", checked := Try.checked }
namespace Rows
def none {H : Type} : Left H := { results := [], args := [] }

/-- 'shalelaw20.ImageChecks': WHATEVER THE INPUT: true; the input reads as it did. -/
def imageChecksSpec : ChangeSpec := { name := "imageChecks", fn := fun _ => fun
  | [d] => { results := [.lit (.bool true)], args := [d] }
  | _ => none }
def imageChecksRow : OpenClaim := { program := "ytloamkbkcdhaiaa", sum := "6ca5ae83b8a87302cbd1130d1dba42f1215daa9d7293eb5ca841dbf9f6211ab5", func := "shale/shalelaw20.ImageChecks", spec := "imageChecks", apart := false }
def ImageChecksSaid : Prop := imageChecksRow.holds Try.pinned (OpenSpec.ofChange imageChecksSpec)

/-- ITS FALSE NEIGHBOUR: 'it returns false'. Refute it at one input. -/
def imageChecksWrong : ChangeSpec := { name := "imageChecks", fn := fun _ => fun
  | [d] => { results := [.lit (.bool false)], args := [d] }
  | _ => none }
def ImageChecksWrongFalsely : Prop := imageChecksRow.holds Try.pinned (OpenSpec.ofChange imageChecksWrong)

/-- 'shalelaw20.ImagePages': WHATEVER THE INPUT: true; the input reads as it did. -/
def imagePagesSpec : ChangeSpec := { name := "imagePages", fn := fun _ => fun
  | [d1, d2] => { results := [.lit (.bool true)], args := [d1, d2] }
  | _ => none }
def imagePagesRow : OpenClaim := { program := "ytloamkbkcdhaiaa", sum := "6ca5ae83b8a87302cbd1130d1dba42f1215daa9d7293eb5ca841dbf9f6211ab5", func := "shale/shalelaw20.ImagePages", spec := "imagePages", apart := false }
def ImagePagesSaid : Prop := imagePagesRow.holds Try.pinned (OpenSpec.ofChange imagePagesSpec)

/-- ITS FALSE NEIGHBOUR: 'it returns false'. Refute it at one input. -/
def imagePagesWrong : ChangeSpec := { name := "imagePages", fn := fun _ => fun
  | [d1, d2] => { results := [.lit (.bool false)], args := [d1, d2] }
  | _ => none }
def ImagePagesWrongFalsely : Prop := imagePagesRow.holds Try.pinned (OpenSpec.ofChange imagePagesWrong)

/-- 'shalelaw20.ImageDiffs': WHATEVER THE INPUT: true; the input reads as it did. -/
def imageDiffsSpec : ChangeSpec := { name := "imageDiffs", fn := fun _ => fun
  | [d1, d2] => { results := [.lit (.bool true)], args := [d1, d2] }
  | _ => none }
def imageDiffsRow : OpenClaim := { program := "ytloamkbkcdhaiaa", sum := "6ca5ae83b8a87302cbd1130d1dba42f1215daa9d7293eb5ca841dbf9f6211ab5", func := "shale/shalelaw20.ImageDiffs", spec := "imageDiffs", unfollowed := true, recurses := true, apart := false }
def ImageDiffsSaid : Prop := imageDiffsRow.holds Try.pinned (OpenSpec.ofChange imageDiffsSpec)

/-- ITS FALSE NEIGHBOUR: 'it returns false'. Refute it at one input. -/
def imageDiffsWrong : ChangeSpec := { name := "imageDiffs", fn := fun _ => fun
  | [d1, d2] => { results := [.lit (.bool false)], args := [d1, d2] }
  | _ => none }
def ImageDiffsWrongFalsely : Prop := imageDiffsRow.holds Try.pinned (OpenSpec.ofChange imageDiffsWrong)

/- THE SECOND FORM. 'bulk': how many values and letters a reading holds, each counted each time it is reached (what is shared counts as often as it is met; a slice's spare places count too). A statement '..UptoSaid' is the law's where the arguments, and the package variables that the reading takes, are together of bulk at most 1048576: NARROWER than '..Said'. Prove '..Said' where nothing that the law and all that it calls make is longer than what came in: it says more and counts as full. Else prove '..UptoSaid'. A law counts once. -/
mutual
def uptoBulk {H : Type} : DataW H → Nat
  | .lit (.string bytes) => bytes.length + 1
  | .lit _ => 1
  | .nil => 1
  | .ptr d => uptoBulk d + 1
  | .slice elems spare => uptoBulkAll elems + uptoBulkAll spare + 1
  | .agg parts => uptoBulkAll parts + 1
  | .iface _ d => uptoBulk d + 1
  | .map entries => uptoBulkEntries entries + 1
  | .held _ => 1
def uptoBulkAll {H : Type} : List (DataW H) → Nat
  | [] => 0
  | d :: r => uptoBulk d + uptoBulkAll r
def uptoBulkEntries {H : Type} : List (Lit × DataW H) → Nat
  | [] => 0
  | x :: r => uptoBulkEntry x + uptoBulkEntries r
def uptoBulkEntry {H : Type} : Lit × DataW H → Nat
  | (.string bytes, d) => bytes.length + uptoBulk d + 1
  | (_, d) => uptoBulk d + 1
 end
def uptoSmall : (H : Type) → List (DataW H) → Bool := fun _ ds => decide (uptoBulkAll ds ≤ 1048576)
def OpenSpec.upto (s : _root_.Go.ChangeSpec) : _root_.Go.OpenSpec := { _root_.Go.OpenSpec.ofChange s with cond := some uptoSmall }

/-- 'shalelaw20.ImageChecks', WHERE WHAT IT READS IS OF BULK AT MOST 1048576: true; the input reads as it did. -/
def imageChecksUptoRow : OpenClaim := { program := "ytloamkbkcdhaiaa", sum := "6ca5ae83b8a87302cbd1130d1dba42f1215daa9d7293eb5ca841dbf9f6211ab5", func := "shale/shalelaw20.ImageChecks", spec := "imageChecks", apart := false, narrowed := true }
def ImageChecksUptoSaid : Prop := imageChecksUptoRow.holds Try.pinned (OpenSpec.upto imageChecksSpec)

/-- 'shalelaw20.ImagePages', WHERE WHAT IT READS IS OF BULK AT MOST 1048576: true; the input reads as it did. -/
def imagePagesUptoRow : OpenClaim := { program := "ytloamkbkcdhaiaa", sum := "6ca5ae83b8a87302cbd1130d1dba42f1215daa9d7293eb5ca841dbf9f6211ab5", func := "shale/shalelaw20.ImagePages", spec := "imagePages", apart := false, narrowed := true }
def ImagePagesUptoSaid : Prop := imagePagesUptoRow.holds Try.pinned (OpenSpec.upto imagePagesSpec)

/-- 'shalelaw20.ImageDiffs', WHERE WHAT IT READS IS OF BULK AT MOST 1048576: true; the input reads as it did. -/
def imageDiffsUptoRow : OpenClaim := { program := "ytloamkbkcdhaiaa", sum := "6ca5ae83b8a87302cbd1130d1dba42f1215daa9d7293eb5ca841dbf9f6211ab5", func := "shale/shalelaw20.ImageDiffs", spec := "imageDiffs", unfollowed := true, recurses := true, apart := false, narrowed := true }
def ImageDiffsUptoSaid : Prop := imageDiffsUptoRow.holds Try.pinned (OpenSpec.upto imageDiffsSpec)

end Rows
end Go.Proofs.Ytloamkbkcdhaiaa
