/-
  NARROWER THAN 'FOR EVERY INPUT', by the rows' own cells (each row's printed sentence says how): TagsReads: laid · TagsLifts: laid · TagsPacks: laid · TagsBack: laid · TagsTorn: laid · TagsWider: laid · TagsOwn: laid.
  DERIVED. THE GIVEN ROWS OF THIS SEAT. 7 by the template 'for every input the law returns true; each argument reads behind the call as it read before'; 0 by the template 'total and deterministic' (their statements: YtekbjcagjkcaiaaDoorTotals.lean).
  GIVEN WITH THE SEED: the statements are not yours to turn. If you find one false, say at which input.
  Laid BY PROGRAM, IN A SANDBOX (cutbox-rows.mjs): the forced cells as the released guide's own fill.sh prints them over the translation 2c486d81a0883d7b… (all of the seat's roots in one cut). By AI agents, Wed Nov 11 2026. No macro, syntax, notation, axiom, sorry.
-/
import Derived.Test.YtekbjcagjkcaiaaDoorChecked
import GoSem.Claim
import GoSem.ClaimJoined
import GoSem.ClaimMapViews
import Derived.JoinedTies
import Derived.KernelRfl
namespace Go.Proofs.YtekbjcagjkcaiaaDoor
/- THE CELL 'sum', in the pinned program and in every row, IS THE sha256 OF THE DUMP (.gsa) THAT YtekbjcagjkcaiaaDoorProg.lean LOADS. Nothing in Lean hashes anything: it is a label: what it is worth is what the hold of that sum in a sandbox is worth. -/
noncomputable def Tryd.pinned : Pinned := { name := "ytekbjcagjkcaiaadoor", sum := "2c486d81a0883d7beb5bee7f6c0ab362d95f97951f5e6ae1117e5d5beef3284e", checked := Tryd.checked }
namespace Rows
def none {H : Type} : Left H := { results := [], args := [] }

/- WHAT THE LISTED PACKAGE-LEVEL VARIABLES READ AS WHEN THE CALL BEGINS. Each datum BY PROGRAM (the guide's laid-datum.mjs) off the statement by which the dump's own 'gosem.cut.vars' lays the variable. In a bare row this is a premise. The card (YtekbjcagjkcaiaaDoorCards.lean) ties it to the program's text. -/
def laid_shale_tags_layout {H : Type} : DataW H := .agg [.agg [.lit (.int .i64 0), .lit (.int .i64 1)], .agg [.lit (.int .i64 1), .lit (.int .i64 1)], .agg [.lit (.int .i64 2), .lit (.int .i64 6)], .agg [.lit (.int .i64 8), .lit (.int .i64 6)], .agg [.lit (.int .i64 14), .lit (.int .i64 4)], .agg [.lit (.int .i64 18), .lit (.int .i64 4)], .agg [.lit (.int .i64 22), .lit (.int .i64 2)], .agg [.lit (.int .i64 24), .lit (.int .i64 2)]]
def laid_shale_rail_spread {H : Type} : DataW H := .agg [.lit (.int .u8 170), .lit (.int .u8 169), .lit (.int .u8 166), .lit (.int .u8 165), .lit (.int .u8 154), .lit (.int .u8 153), .lit (.int .u8 150), .lit (.int .u8 149), .lit (.int .u8 106), .lit (.int .u8 105), .lit (.int .u8 102), .lit (.int .u8 101), .lit (.int .u8 90), .lit (.int .u8 89), .lit (.int .u8 86), .lit (.int .u8 85)]

/-- 'shalelaw06.TagsReads': WHATEVER THE INPUT: true; the input reads as it did. -/
def tagsReadsSpec : ChangeSpec := { name := "tagsReads", fn := fun _ => fun
  | [d] => { results := [.lit (.bool true)], args := [d] }
  | _ => none }
def tagsReadsRow : OpenClaim := { program := "ytekbjcagjkcaiaadoor", sum := "2c486d81a0883d7beb5bee7f6c0ab362d95f97951f5e6ae1117e5d5beef3284e", func := "shale/shalelaw06.TagsReads", spec := "tagsReads", named := ["shale/tags.layout"], apart := false, laid := [("shale/tags.layout", laid_shale_tags_layout)] }
def TagsReadsSaid : Prop := tagsReadsRow.holds Tryd.pinned (OpenSpec.ofChange tagsReadsSpec)

/-- ITS FALSE NEIGHBOUR: 'it returns false'. Refute it at one input. -/
def tagsReadsWrong : ChangeSpec := { name := "tagsReads", fn := fun _ => fun
  | [d] => { results := [.lit (.bool false)], args := [d] }
  | _ => none }
def TagsReadsWrongFalsely : Prop := tagsReadsRow.holds Tryd.pinned (OpenSpec.ofChange tagsReadsWrong)

/-- 'shalelaw06.TagsLifts': WHATEVER THE INPUT: true; the input reads as it did. -/
def tagsLiftsSpec : ChangeSpec := { name := "tagsLifts", fn := fun _ => fun
  | [d] => { results := [.lit (.bool true)], args := [d] }
  | _ => none }
def tagsLiftsRow : OpenClaim := { program := "ytekbjcagjkcaiaadoor", sum := "2c486d81a0883d7beb5bee7f6c0ab362d95f97951f5e6ae1117e5d5beef3284e", func := "shale/shalelaw06.TagsLifts", spec := "tagsLifts", named := ["shale/tags.layout"], apart := false, laid := [("shale/tags.layout", laid_shale_tags_layout)] }
def TagsLiftsSaid : Prop := tagsLiftsRow.holds Tryd.pinned (OpenSpec.ofChange tagsLiftsSpec)

/-- ITS FALSE NEIGHBOUR: 'it returns false'. Refute it at one input. -/
def tagsLiftsWrong : ChangeSpec := { name := "tagsLifts", fn := fun _ => fun
  | [d] => { results := [.lit (.bool false)], args := [d] }
  | _ => none }
def TagsLiftsWrongFalsely : Prop := tagsLiftsRow.holds Tryd.pinned (OpenSpec.ofChange tagsLiftsWrong)

/-- 'shalelaw06.TagsPacks': WHATEVER THE INPUT: true; the input reads as it did. -/
def tagsPacksSpec : ChangeSpec := { name := "tagsPacks", fn := fun _ => fun
  | [d] => { results := [.lit (.bool true)], args := [d] }
  | _ => none }
def tagsPacksRow : OpenClaim := { program := "ytekbjcagjkcaiaadoor", sum := "2c486d81a0883d7beb5bee7f6c0ab362d95f97951f5e6ae1117e5d5beef3284e", func := "shale/shalelaw06.TagsPacks", spec := "tagsPacks", named := ["shale/tags.layout", "shale/rail.spread"], apart := false, laid := [("shale/rail.spread", laid_shale_rail_spread), ("shale/tags.layout", laid_shale_tags_layout)] }
def TagsPacksSaid : Prop := tagsPacksRow.holds Tryd.pinned (OpenSpec.ofChange tagsPacksSpec)

/-- ITS FALSE NEIGHBOUR: 'it returns false'. Refute it at one input. -/
def tagsPacksWrong : ChangeSpec := { name := "tagsPacks", fn := fun _ => fun
  | [d] => { results := [.lit (.bool false)], args := [d] }
  | _ => none }
def TagsPacksWrongFalsely : Prop := tagsPacksRow.holds Tryd.pinned (OpenSpec.ofChange tagsPacksWrong)

/-- 'shalelaw06.TagsBack': WHATEVER THE INPUT: true; the input reads as it did. -/
def tagsBackSpec : ChangeSpec := { name := "tagsBack", fn := fun _ => fun
  | [d1, d2, d3] => { results := [.lit (.bool true)], args := [d1, d2, d3] }
  | _ => none }
def tagsBackRow : OpenClaim := { program := "ytekbjcagjkcaiaadoor", sum := "2c486d81a0883d7beb5bee7f6c0ab362d95f97951f5e6ae1117e5d5beef3284e", func := "shale/shalelaw06.TagsBack", spec := "tagsBack", unfollowed := true, recurses := true, named := ["shale/tags.layout", "shale/rail.spread"], apart := false, laid := [("shale/rail.spread", laid_shale_rail_spread), ("shale/tags.layout", laid_shale_tags_layout)] }
def TagsBackSaid : Prop := tagsBackRow.holds Tryd.pinned (OpenSpec.ofChange tagsBackSpec)

/-- ITS FALSE NEIGHBOUR: 'it returns false'. Refute it at one input. -/
def tagsBackWrong : ChangeSpec := { name := "tagsBack", fn := fun _ => fun
  | [d1, d2, d3] => { results := [.lit (.bool false)], args := [d1, d2, d3] }
  | _ => none }
def TagsBackWrongFalsely : Prop := tagsBackRow.holds Tryd.pinned (OpenSpec.ofChange tagsBackWrong)

/-- 'shalelaw06.TagsTorn': WHATEVER THE INPUT: true; the input reads as it did. -/
def tagsTornSpec : ChangeSpec := { name := "tagsTorn", fn := fun _ => fun
  | [d1, d2, d3, d4, d5] => { results := [.lit (.bool true)], args := [d1, d2, d3, d4, d5] }
  | _ => none }
def tagsTornRow : OpenClaim := { program := "ytekbjcagjkcaiaadoor", sum := "2c486d81a0883d7beb5bee7f6c0ab362d95f97951f5e6ae1117e5d5beef3284e", func := "shale/shalelaw06.TagsTorn", spec := "tagsTorn", unfollowed := true, recurses := true, named := ["shale/tags.layout", "shale/rail.spread"], apart := false, laid := [("shale/rail.spread", laid_shale_rail_spread), ("shale/tags.layout", laid_shale_tags_layout)] }
def TagsTornSaid : Prop := tagsTornRow.holds Tryd.pinned (OpenSpec.ofChange tagsTornSpec)

/-- ITS FALSE NEIGHBOUR: 'it returns false'. Refute it at one input. -/
def tagsTornWrong : ChangeSpec := { name := "tagsTorn", fn := fun _ => fun
  | [d1, d2, d3, d4, d5] => { results := [.lit (.bool false)], args := [d1, d2, d3, d4, d5] }
  | _ => none }
def TagsTornWrongFalsely : Prop := tagsTornRow.holds Tryd.pinned (OpenSpec.ofChange tagsTornWrong)

/-- 'shalelaw06.TagsWider': WHATEVER THE INPUT: true; the input reads as it did. -/
def tagsWiderSpec : ChangeSpec := { name := "tagsWider", fn := fun _ => fun
  | [d1, d2, d3] => { results := [.lit (.bool true)], args := [d1, d2, d3] }
  | _ => none }
def tagsWiderRow : OpenClaim := { program := "ytekbjcagjkcaiaadoor", sum := "2c486d81a0883d7beb5bee7f6c0ab362d95f97951f5e6ae1117e5d5beef3284e", func := "shale/shalelaw06.TagsWider", spec := "tagsWider", unfollowed := true, recurses := true, named := ["shale/tags.layout", "shale/rail.spread"], apart := false, laid := [("shale/rail.spread", laid_shale_rail_spread), ("shale/tags.layout", laid_shale_tags_layout)] }
def TagsWiderSaid : Prop := tagsWiderRow.holds Tryd.pinned (OpenSpec.ofChange tagsWiderSpec)

/-- ITS FALSE NEIGHBOUR: 'it returns false'. Refute it at one input. -/
def tagsWiderWrong : ChangeSpec := { name := "tagsWider", fn := fun _ => fun
  | [d1, d2, d3] => { results := [.lit (.bool false)], args := [d1, d2, d3] }
  | _ => none }
def TagsWiderWrongFalsely : Prop := tagsWiderRow.holds Tryd.pinned (OpenSpec.ofChange tagsWiderWrong)

/-- 'shalelaw06.TagsOwn': WHATEVER THE INPUT: true; the input reads as it did. -/
def tagsOwnSpec : ChangeSpec := { name := "tagsOwn", fn := fun _ => fun
  | [d1, d2] => { results := [.lit (.bool true)], args := [d1, d2] }
  | _ => none }
def tagsOwnRow : OpenClaim := { program := "ytekbjcagjkcaiaadoor", sum := "2c486d81a0883d7beb5bee7f6c0ab362d95f97951f5e6ae1117e5d5beef3284e", func := "shale/shalelaw06.TagsOwn", spec := "tagsOwn", unfollowed := true, recurses := true, named := ["shale/tags.layout", "shale/rail.spread"], apart := false, laid := [("shale/rail.spread", laid_shale_rail_spread), ("shale/tags.layout", laid_shale_tags_layout)] }
def TagsOwnSaid : Prop := tagsOwnRow.holds Tryd.pinned (OpenSpec.ofChange tagsOwnSpec)

/-- ITS FALSE NEIGHBOUR: 'it returns false'. Refute it at one input. -/
def tagsOwnWrong : ChangeSpec := { name := "tagsOwn", fn := fun _ => fun
  | [d1, d2] => { results := [.lit (.bool false)], args := [d1, d2] }
  | _ => none }
def TagsOwnWrongFalsely : Prop := tagsOwnRow.holds Tryd.pinned (OpenSpec.ofChange tagsOwnWrong)

/- THE SECOND FORM. 'bulk': how many values and letters a reading holds, each counted each time it is reached (what is shared counts as often as it is met; a slice's spare places count too). A statement '..UptoSaid' is the law's where the arguments, and the package variables that the reading takes, are together of bulk at most 1048576: NARROWER than '..Said'. Prove '..Said' where nothing that the law and all that it calls make is longer than what came in: it says more and counts as full. Else prove '..UptoSaid'. A law counts once. -/
mutual
def uptoBulk {H : Type} : DataW H → Nat
  | .lit (.string bytes) => bytes.length + 1
  | .lit _ => 1
  | .nil => 1
  | .ptr d => uptoBulk d + 1
  | .slice elems spare => uptoBulkAll elems + uptoBulkAll spare + 1
  | .agg parts => uptoBulkAll parts + 1
  | .iface _ d => uptoBulk d + 1
  | .map entries => uptoBulkEntries entries + 1
  | .held _ => 1
def uptoBulkAll {H : Type} : List (DataW H) → Nat
  | [] => 0
  | d :: r => uptoBulk d + uptoBulkAll r
def uptoBulkEntries {H : Type} : List (Lit × DataW H) → Nat
  | [] => 0
  | x :: r => uptoBulkEntry x + uptoBulkEntries r
def uptoBulkEntry {H : Type} : Lit × DataW H → Nat
  | (.string bytes, d) => bytes.length + uptoBulk d + 1
  | (_, d) => uptoBulk d + 1
 end
def uptoSmall : (H : Type) → List (DataW H) → Bool := fun _ ds => decide (uptoBulkAll ds ≤ 1048576)
def OpenSpec.upto (s : _root_.Go.ChangeSpec) : _root_.Go.OpenSpec := { _root_.Go.OpenSpec.ofChange s with cond := some uptoSmall }

/-- 'shalelaw06.TagsReads', WHERE WHAT IT READS IS OF BULK AT MOST 1048576: true; the input reads as it did. -/
def tagsReadsUptoRow : OpenClaim := { program := "ytekbjcagjkcaiaadoor", sum := "2c486d81a0883d7beb5bee7f6c0ab362d95f97951f5e6ae1117e5d5beef3284e", func := "shale/shalelaw06.TagsReads", spec := "tagsReads", named := ["shale/tags.layout"], apart := false, laid := [("shale/tags.layout", laid_shale_tags_layout)], narrowed := true }
def TagsReadsUptoSaid : Prop := tagsReadsUptoRow.holds Tryd.pinned (OpenSpec.upto tagsReadsSpec)

/-- 'shalelaw06.TagsLifts', WHERE WHAT IT READS IS OF BULK AT MOST 1048576: true; the input reads as it did. -/
def tagsLiftsUptoRow : OpenClaim := { program := "ytekbjcagjkcaiaadoor", sum := "2c486d81a0883d7beb5bee7f6c0ab362d95f97951f5e6ae1117e5d5beef3284e", func := "shale/shalelaw06.TagsLifts", spec := "tagsLifts", named := ["shale/tags.layout"], apart := false, laid := [("shale/tags.layout", laid_shale_tags_layout)], narrowed := true }
def TagsLiftsUptoSaid : Prop := tagsLiftsUptoRow.holds Tryd.pinned (OpenSpec.upto tagsLiftsSpec)

/-- 'shalelaw06.TagsPacks', WHERE WHAT IT READS IS OF BULK AT MOST 1048576: true; the input reads as it did. -/
def tagsPacksUptoRow : OpenClaim := { program := "ytekbjcagjkcaiaadoor", sum := "2c486d81a0883d7beb5bee7f6c0ab362d95f97951f5e6ae1117e5d5beef3284e", func := "shale/shalelaw06.TagsPacks", spec := "tagsPacks", named := ["shale/tags.layout", "shale/rail.spread"], apart := false, laid := [("shale/rail.spread", laid_shale_rail_spread), ("shale/tags.layout", laid_shale_tags_layout)], narrowed := true }
def TagsPacksUptoSaid : Prop := tagsPacksUptoRow.holds Tryd.pinned (OpenSpec.upto tagsPacksSpec)

/-- 'shalelaw06.TagsBack', WHERE WHAT IT READS IS OF BULK AT MOST 1048576: true; the input reads as it did. -/
def tagsBackUptoRow : OpenClaim := { program := "ytekbjcagjkcaiaadoor", sum := "2c486d81a0883d7beb5bee7f6c0ab362d95f97951f5e6ae1117e5d5beef3284e", func := "shale/shalelaw06.TagsBack", spec := "tagsBack", unfollowed := true, recurses := true, named := ["shale/tags.layout", "shale/rail.spread"], apart := false, laid := [("shale/rail.spread", laid_shale_rail_spread), ("shale/tags.layout", laid_shale_tags_layout)], narrowed := true }
def TagsBackUptoSaid : Prop := tagsBackUptoRow.holds Tryd.pinned (OpenSpec.upto tagsBackSpec)

/-- 'shalelaw06.TagsTorn', WHERE WHAT IT READS IS OF BULK AT MOST 1048576: true; the input reads as it did. -/
def tagsTornUptoRow : OpenClaim := { program := "ytekbjcagjkcaiaadoor", sum := "2c486d81a0883d7beb5bee7f6c0ab362d95f97951f5e6ae1117e5d5beef3284e", func := "shale/shalelaw06.TagsTorn", spec := "tagsTorn", unfollowed := true, recurses := true, named := ["shale/tags.layout", "shale/rail.spread"], apart := false, laid := [("shale/rail.spread", laid_shale_rail_spread), ("shale/tags.layout", laid_shale_tags_layout)], narrowed := true }
def TagsTornUptoSaid : Prop := tagsTornUptoRow.holds Tryd.pinned (OpenSpec.upto tagsTornSpec)

/-- 'shalelaw06.TagsWider', WHERE WHAT IT READS IS OF BULK AT MOST 1048576: true; the input reads as it did. -/
def tagsWiderUptoRow : OpenClaim := { program := "ytekbjcagjkcaiaadoor", sum := "2c486d81a0883d7beb5bee7f6c0ab362d95f97951f5e6ae1117e5d5beef3284e", func := "shale/shalelaw06.TagsWider", spec := "tagsWider", unfollowed := true, recurses := true, named := ["shale/tags.layout", "shale/rail.spread"], apart := false, laid := [("shale/rail.spread", laid_shale_rail_spread), ("shale/tags.layout", laid_shale_tags_layout)], narrowed := true }
def TagsWiderUptoSaid : Prop := tagsWiderUptoRow.holds Tryd.pinned (OpenSpec.upto tagsWiderSpec)

/-- 'shalelaw06.TagsOwn', WHERE WHAT IT READS IS OF BULK AT MOST 1048576: true; the input reads as it did. -/
def tagsOwnUptoRow : OpenClaim := { program := "ytekbjcagjkcaiaadoor", sum := "2c486d81a0883d7beb5bee7f6c0ab362d95f97951f5e6ae1117e5d5beef3284e", func := "shale/shalelaw06.TagsOwn", spec := "tagsOwn", unfollowed := true, recurses := true, named := ["shale/tags.layout", "shale/rail.spread"], apart := false, laid := [("shale/rail.spread", laid_shale_rail_spread), ("shale/tags.layout", laid_shale_tags_layout)], narrowed := true }
def TagsOwnUptoSaid : Prop := tagsOwnUptoRow.holds Tryd.pinned (OpenSpec.upto tagsOwnSpec)

end Rows
end Go.Proofs.YtekbjcagjkcaiaaDoor
