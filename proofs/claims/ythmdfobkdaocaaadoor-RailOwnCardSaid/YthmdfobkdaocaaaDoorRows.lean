/-
  NARROWER THAN 'FOR EVERY INPUT', by the rows' own cells (each row's printed sentence says how): RailLays: laid · RailBack: laid · RailTorn: laid · RailOne: laid · RailFar: laid · RailOwn: laid.
  DERIVED. THE GIVEN ROWS OF THIS SEAT. 6 by the template 'for every input the law returns true; each argument reads behind the call as it read before'; 0 by the template 'total and deterministic' (their statements: YthmdfobkdaocaaaDoorTotals.lean).
  GIVEN WITH THE SEED: the statements are not yours to turn. If you find one false, say at which input.
  Laid BY PROGRAM, IN A SANDBOX (cutbox-rows.mjs): the forced cells as the released guide's own fill.sh prints them over the translation db53ae579b2465af… (all of the seat's roots in one cut). By AI agents, Wed Nov 11 2026. No macro, syntax, notation, axiom, sorry.
-/
import Derived.Test.YthmdfobkdaocaaaDoorChecked
import GoSem.Claim
import GoSem.ClaimJoined
import GoSem.ClaimMapViews
import Derived.JoinedTies
import Derived.KernelRfl
namespace Go.Proofs.YthmdfobkdaocaaaDoor
/- THE CELL 'sum', in the pinned program and in every row, IS THE sha256 OF THE DUMP (.gsa) THAT YthmdfobkdaocaaaDoorProg.lean LOADS. Nothing in Lean hashes anything: it is a label: what it is worth is what the hold of that sum in a sandbox is worth. -/
noncomputable def Tryd.pinned : Pinned := { name := "ythmdfobkdaocaaadoor", sum := "db53ae579b2465af5be6fbae449bea7ab226e135f3cdc321f38710390bf202c6", checked := Tryd.checked }
namespace Rows
def none {H : Type} : Left H := { results := [], args := [] }

/- WHAT THE LISTED PACKAGE-LEVEL VARIABLES READ AS WHEN THE CALL BEGINS. Each datum BY PROGRAM (the guide's laid-datum.mjs) off the statement by which the dump's own 'gosem.cut.vars' lays the variable. In a bare row this is a premise. The card (YthmdfobkdaocaaaDoorCards.lean) ties it to the program's text. -/
def laid_shale_rail_spread {H : Type} : DataW H := .agg [.lit (.int .u8 170), .lit (.int .u8 169), .lit (.int .u8 166), .lit (.int .u8 165), .lit (.int .u8 154), .lit (.int .u8 153), .lit (.int .u8 150), .lit (.int .u8 149), .lit (.int .u8 106), .lit (.int .u8 105), .lit (.int .u8 102), .lit (.int .u8 101), .lit (.int .u8 90), .lit (.int .u8 89), .lit (.int .u8 86), .lit (.int .u8 85)]

/-- 'shalelaw03.RailLays': WHATEVER THE INPUT: true; the input reads as it did. -/
def railLaysSpec : ChangeSpec := { name := "railLays", fn := fun _ => fun
  | [d1, d2] => { results := [.lit (.bool true)], args := [d1, d2] }
  | _ => none }
def railLaysRow : OpenClaim := { program := "ythmdfobkdaocaaadoor", sum := "db53ae579b2465af5be6fbae449bea7ab226e135f3cdc321f38710390bf202c6", func := "shale/shalelaw03.RailLays", spec := "railLays", named := ["shale/rail.spread"], apart := false, laid := [("shale/rail.spread", laid_shale_rail_spread)] }
def RailLaysSaid : Prop := railLaysRow.holds Tryd.pinned (OpenSpec.ofChange railLaysSpec)

/-- ITS FALSE NEIGHBOUR: 'it returns false'. Refute it at one input. -/
def railLaysWrong : ChangeSpec := { name := "railLays", fn := fun _ => fun
  | [d1, d2] => { results := [.lit (.bool false)], args := [d1, d2] }
  | _ => none }
def RailLaysWrongFalsely : Prop := railLaysRow.holds Tryd.pinned (OpenSpec.ofChange railLaysWrong)

/-- 'shalelaw03.RailBack': WHATEVER THE INPUT: true; the input reads as it did. -/
def railBackSpec : ChangeSpec := { name := "railBack", fn := fun _ => fun
  | [d1, d2, d3] => { results := [.lit (.bool true)], args := [d1, d2, d3] }
  | _ => none }
def railBackRow : OpenClaim := { program := "ythmdfobkdaocaaadoor", sum := "db53ae579b2465af5be6fbae449bea7ab226e135f3cdc321f38710390bf202c6", func := "shale/shalelaw03.RailBack", spec := "railBack", named := ["shale/rail.spread"], apart := false, laid := [("shale/rail.spread", laid_shale_rail_spread)] }
def RailBackSaid : Prop := railBackRow.holds Tryd.pinned (OpenSpec.ofChange railBackSpec)

/-- ITS FALSE NEIGHBOUR: 'it returns false'. Refute it at one input. -/
def railBackWrong : ChangeSpec := { name := "railBack", fn := fun _ => fun
  | [d1, d2, d3] => { results := [.lit (.bool false)], args := [d1, d2, d3] }
  | _ => none }
def RailBackWrongFalsely : Prop := railBackRow.holds Tryd.pinned (OpenSpec.ofChange railBackWrong)

/-- 'shalelaw03.RailTorn': WHATEVER THE INPUT: true; the input reads as it did. -/
def railTornSpec : ChangeSpec := { name := "railTorn", fn := fun _ => fun
  | [d1, d2, d3] => { results := [.lit (.bool true)], args := [d1, d2, d3] }
  | _ => none }
def railTornRow : OpenClaim := { program := "ythmdfobkdaocaaadoor", sum := "db53ae579b2465af5be6fbae449bea7ab226e135f3cdc321f38710390bf202c6", func := "shale/shalelaw03.RailTorn", spec := "railTorn", named := ["shale/rail.spread"], apart := false, laid := [("shale/rail.spread", laid_shale_rail_spread)] }
def RailTornSaid : Prop := railTornRow.holds Tryd.pinned (OpenSpec.ofChange railTornSpec)

/-- ITS FALSE NEIGHBOUR: 'it returns false'. Refute it at one input. -/
def railTornWrong : ChangeSpec := { name := "railTorn", fn := fun _ => fun
  | [d1, d2, d3] => { results := [.lit (.bool false)], args := [d1, d2, d3] }
  | _ => none }
def RailTornWrongFalsely : Prop := railTornRow.holds Tryd.pinned (OpenSpec.ofChange railTornWrong)

/-- 'shalelaw03.RailOne': WHATEVER THE INPUT: true; the input reads as it did. -/
def railOneSpec : ChangeSpec := { name := "railOne", fn := fun _ => fun
  | [d] => { results := [.lit (.bool true)], args := [d] }
  | _ => none }
def railOneRow : OpenClaim := { program := "ythmdfobkdaocaaadoor", sum := "db53ae579b2465af5be6fbae449bea7ab226e135f3cdc321f38710390bf202c6", func := "shale/shalelaw03.RailOne", spec := "railOne", named := ["shale/rail.spread"], apart := false, laid := [("shale/rail.spread", laid_shale_rail_spread)] }
def RailOneSaid : Prop := railOneRow.holds Tryd.pinned (OpenSpec.ofChange railOneSpec)

/-- ITS FALSE NEIGHBOUR: 'it returns false'. Refute it at one input. -/
def railOneWrong : ChangeSpec := { name := "railOne", fn := fun _ => fun
  | [d] => { results := [.lit (.bool false)], args := [d] }
  | _ => none }
def RailOneWrongFalsely : Prop := railOneRow.holds Tryd.pinned (OpenSpec.ofChange railOneWrong)

/-- 'shalelaw03.RailFar': WHATEVER THE INPUT: true; the input reads as it did. -/
def railFarSpec : ChangeSpec := { name := "railFar", fn := fun _ => fun
  | [d1, d2] => { results := [.lit (.bool true)], args := [d1, d2] }
  | _ => none }
def railFarRow : OpenClaim := { program := "ythmdfobkdaocaaadoor", sum := "db53ae579b2465af5be6fbae449bea7ab226e135f3cdc321f38710390bf202c6", func := "shale/shalelaw03.RailFar", spec := "railFar", named := ["shale/rail.spread"], apart := false, laid := [("shale/rail.spread", laid_shale_rail_spread)] }
def RailFarSaid : Prop := railFarRow.holds Tryd.pinned (OpenSpec.ofChange railFarSpec)

/-- ITS FALSE NEIGHBOUR: 'it returns false'. Refute it at one input. -/
def railFarWrong : ChangeSpec := { name := "railFar", fn := fun _ => fun
  | [d1, d2] => { results := [.lit (.bool false)], args := [d1, d2] }
  | _ => none }
def RailFarWrongFalsely : Prop := railFarRow.holds Tryd.pinned (OpenSpec.ofChange railFarWrong)

/-- 'shalelaw03.RailOwn': WHATEVER THE INPUT: true; the input reads as it did. -/
def railOwnSpec : ChangeSpec := { name := "railOwn", fn := fun _ => fun
  | [d1, d2] => { results := [.lit (.bool true)], args := [d1, d2] }
  | _ => none }
def railOwnRow : OpenClaim := { program := "ythmdfobkdaocaaadoor", sum := "db53ae579b2465af5be6fbae449bea7ab226e135f3cdc321f38710390bf202c6", func := "shale/shalelaw03.RailOwn", spec := "railOwn", named := ["shale/rail.spread"], apart := false, laid := [("shale/rail.spread", laid_shale_rail_spread)] }
def RailOwnSaid : Prop := railOwnRow.holds Tryd.pinned (OpenSpec.ofChange railOwnSpec)

/-- ITS FALSE NEIGHBOUR: 'it returns false'. Refute it at one input. -/
def railOwnWrong : ChangeSpec := { name := "railOwn", fn := fun _ => fun
  | [d1, d2] => { results := [.lit (.bool false)], args := [d1, d2] }
  | _ => none }
def RailOwnWrongFalsely : Prop := railOwnRow.holds Tryd.pinned (OpenSpec.ofChange railOwnWrong)

/- THE SECOND FORM. 'bulk': how many values and letters a reading holds, each counted each time it is reached (what is shared counts as often as it is met; a slice's spare places count too). A statement '..UptoSaid' is the law's where the arguments, and the package variables that the reading takes, are together of bulk at most 1048576: NARROWER than '..Said'. Prove '..Said' where nothing that the law and all that it calls make is longer than what came in: it says more and counts as full. Else prove '..UptoSaid'. A law counts once. -/
mutual
def uptoBulk {H : Type} : DataW H → Nat
  | .lit (.string bytes) => bytes.length + 1
  | .lit _ => 1
  | .nil => 1
  | .ptr d => uptoBulk d + 1
  | .slice elems spare => uptoBulkAll elems + uptoBulkAll spare + 1
  | .agg parts => uptoBulkAll parts + 1
  | .iface _ d => uptoBulk d + 1
  | .map entries => uptoBulkEntries entries + 1
  | .held _ => 1
def uptoBulkAll {H : Type} : List (DataW H) → Nat
  | [] => 0
  | d :: r => uptoBulk d + uptoBulkAll r
def uptoBulkEntries {H : Type} : List (Lit × DataW H) → Nat
  | [] => 0
  | x :: r => uptoBulkEntry x + uptoBulkEntries r
def uptoBulkEntry {H : Type} : Lit × DataW H → Nat
  | (.string bytes, d) => bytes.length + uptoBulk d + 1
  | (_, d) => uptoBulk d + 1
 end
def uptoSmall : (H : Type) → List (DataW H) → Bool := fun _ ds => decide (uptoBulkAll ds ≤ 1048576)
def OpenSpec.upto (s : _root_.Go.ChangeSpec) : _root_.Go.OpenSpec := { _root_.Go.OpenSpec.ofChange s with cond := some uptoSmall }

/-- 'shalelaw03.RailLays', WHERE WHAT IT READS IS OF BULK AT MOST 1048576: true; the input reads as it did. -/
def railLaysUptoRow : OpenClaim := { program := "ythmdfobkdaocaaadoor", sum := "db53ae579b2465af5be6fbae449bea7ab226e135f3cdc321f38710390bf202c6", func := "shale/shalelaw03.RailLays", spec := "railLays", named := ["shale/rail.spread"], apart := false, laid := [("shale/rail.spread", laid_shale_rail_spread)], narrowed := true }
def RailLaysUptoSaid : Prop := railLaysUptoRow.holds Tryd.pinned (OpenSpec.upto railLaysSpec)

/-- 'shalelaw03.RailBack', WHERE WHAT IT READS IS OF BULK AT MOST 1048576: true; the input reads as it did. -/
def railBackUptoRow : OpenClaim := { program := "ythmdfobkdaocaaadoor", sum := "db53ae579b2465af5be6fbae449bea7ab226e135f3cdc321f38710390bf202c6", func := "shale/shalelaw03.RailBack", spec := "railBack", named := ["shale/rail.spread"], apart := false, laid := [("shale/rail.spread", laid_shale_rail_spread)], narrowed := true }
def RailBackUptoSaid : Prop := railBackUptoRow.holds Tryd.pinned (OpenSpec.upto railBackSpec)

/-- 'shalelaw03.RailTorn', WHERE WHAT IT READS IS OF BULK AT MOST 1048576: true; the input reads as it did. -/
def railTornUptoRow : OpenClaim := { program := "ythmdfobkdaocaaadoor", sum := "db53ae579b2465af5be6fbae449bea7ab226e135f3cdc321f38710390bf202c6", func := "shale/shalelaw03.RailTorn", spec := "railTorn", named := ["shale/rail.spread"], apart := false, laid := [("shale/rail.spread", laid_shale_rail_spread)], narrowed := true }
def RailTornUptoSaid : Prop := railTornUptoRow.holds Tryd.pinned (OpenSpec.upto railTornSpec)

/-- 'shalelaw03.RailOne', WHERE WHAT IT READS IS OF BULK AT MOST 1048576: true; the input reads as it did. -/
def railOneUptoRow : OpenClaim := { program := "ythmdfobkdaocaaadoor", sum := "db53ae579b2465af5be6fbae449bea7ab226e135f3cdc321f38710390bf202c6", func := "shale/shalelaw03.RailOne", spec := "railOne", named := ["shale/rail.spread"], apart := false, laid := [("shale/rail.spread", laid_shale_rail_spread)], narrowed := true }
def RailOneUptoSaid : Prop := railOneUptoRow.holds Tryd.pinned (OpenSpec.upto railOneSpec)

/-- 'shalelaw03.RailFar', WHERE WHAT IT READS IS OF BULK AT MOST 1048576: true; the input reads as it did. -/
def railFarUptoRow : OpenClaim := { program := "ythmdfobkdaocaaadoor", sum := "db53ae579b2465af5be6fbae449bea7ab226e135f3cdc321f38710390bf202c6", func := "shale/shalelaw03.RailFar", spec := "railFar", named := ["shale/rail.spread"], apart := false, laid := [("shale/rail.spread", laid_shale_rail_spread)], narrowed := true }
def RailFarUptoSaid : Prop := railFarUptoRow.holds Tryd.pinned (OpenSpec.upto railFarSpec)

/-- 'shalelaw03.RailOwn', WHERE WHAT IT READS IS OF BULK AT MOST 1048576: true; the input reads as it did. -/
def railOwnUptoRow : OpenClaim := { program := "ythmdfobkdaocaaadoor", sum := "db53ae579b2465af5be6fbae449bea7ab226e135f3cdc321f38710390bf202c6", func := "shale/shalelaw03.RailOwn", spec := "railOwn", named := ["shale/rail.spread"], apart := false, laid := [("shale/rail.spread", laid_shale_rail_spread)], narrowed := true }
def RailOwnUptoSaid : Prop := railOwnUptoRow.holds Tryd.pinned (OpenSpec.upto railOwnSpec)

end Rows
end Go.Proofs.YthmdfobkdaocaaaDoor
