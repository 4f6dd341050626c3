/-
  DERIVED. GIVEN WITH THE SEED: THE CARDS: each row of YtekbjcagjkcaiaaDoorRows.lean that lists a variable, with what it lists TIED to the program's text (the seventh form; the later family's looks); each row that meets fmt, with fmt's text TOLD by the authors' own Lean function (tested against real Go, not proved from fmt's source: count such statements apart). THE CARD IS WHAT COUNTS. Prove the row's statement (the work); the ties are given (YtekbjcagjkcaiaaDoorTie.lean); close each card by the builder's one call (the guide's Derived/Test/ToyasCard.lean, 'card_holds'). Laid BY PROGRAM, IN A SANDBOX (cutbox-door.mjs). By AI agents, Wed Nov 11 2026. No macro, syntax, notation, axiom, sorry.
-/
import Derived.Test.YtekbjcagjkcaiaaDoorRows
import GoSem.ClaimSeven
namespace Go.Proofs.YtekbjcagjkcaiaaDoor
namespace Rows

/-- THE TIED CARD OF 'shalelaw06.TagsReads'. -/
def tagsReadsCard : Claim7 := { stood := { row := tagsReadsRow, standIns := [], harness := (true, "a45eaff3dc83ee2e853a715f7b94400fb46aaf4960d9acba3f8590c1cab7e917"), looks := false }, kinds := [], alts := [], laidByText := true, laidKinds := [.data], laidTests := true, laidLooks := .later }
def TagsReadsCardSaid : Prop := Claim7.holds Tryd.pinned (.plain (OpenSpec.ofChange tagsReadsSpec)) tagsReadsCard

/-- THE TIED CARD OF 'shalelaw06.TagsLifts'. -/
def tagsLiftsCard : Claim7 := { stood := { row := tagsLiftsRow, standIns := [], harness := (true, "a45eaff3dc83ee2e853a715f7b94400fb46aaf4960d9acba3f8590c1cab7e917"), looks := false }, kinds := [], alts := [], laidByText := true, laidKinds := [.data], laidTests := true, laidLooks := .later }
def TagsLiftsCardSaid : Prop := Claim7.holds Tryd.pinned (.plain (OpenSpec.ofChange tagsLiftsSpec)) tagsLiftsCard

/-- THE TIED CARD OF 'shalelaw06.TagsPacks'. -/
def tagsPacksCard : Claim7 := { stood := { row := tagsPacksRow, standIns := [], harness := (true, "a45eaff3dc83ee2e853a715f7b94400fb46aaf4960d9acba3f8590c1cab7e917"), looks := false }, kinds := [], alts := [], laidByText := true, laidKinds := [.data, .data], laidTests := true, laidLooks := .later }
def TagsPacksCardSaid : Prop := Claim7.holds Tryd.pinned (.plain (OpenSpec.ofChange tagsPacksSpec)) tagsPacksCard

/-- THE TIED CARD OF 'shalelaw06.TagsBack'. -/
def tagsBackCard : Claim7 := { stood := { row := tagsBackRow, standIns := [], harness := (true, "a45eaff3dc83ee2e853a715f7b94400fb46aaf4960d9acba3f8590c1cab7e917"), looks := false }, kinds := [], alts := [], laidByText := true, laidKinds := [.data, .data], laidTests := true, laidLooks := .later }
def TagsBackCardSaid : Prop := Claim7.holds Tryd.pinned (.plain (OpenSpec.ofChange tagsBackSpec)) tagsBackCard

/-- THE TIED CARD OF 'shalelaw06.TagsTorn'. -/
def tagsTornCard : Claim7 := { stood := { row := tagsTornRow, standIns := [], harness := (true, "a45eaff3dc83ee2e853a715f7b94400fb46aaf4960d9acba3f8590c1cab7e917"), looks := false }, kinds := [], alts := [], laidByText := true, laidKinds := [.data, .data], laidTests := true, laidLooks := .later }
def TagsTornCardSaid : Prop := Claim7.holds Tryd.pinned (.plain (OpenSpec.ofChange tagsTornSpec)) tagsTornCard

/-- THE TIED CARD OF 'shalelaw06.TagsWider'. -/
def tagsWiderCard : Claim7 := { stood := { row := tagsWiderRow, standIns := [], harness := (true, "a45eaff3dc83ee2e853a715f7b94400fb46aaf4960d9acba3f8590c1cab7e917"), looks := false }, kinds := [], alts := [], laidByText := true, laidKinds := [.data, .data], laidTests := true, laidLooks := .later }
def TagsWiderCardSaid : Prop := Claim7.holds Tryd.pinned (.plain (OpenSpec.ofChange tagsWiderSpec)) tagsWiderCard

/-- THE TIED CARD OF 'shalelaw06.TagsOwn'. -/
def tagsOwnCard : Claim7 := { stood := { row := tagsOwnRow, standIns := [], harness := (true, "a45eaff3dc83ee2e853a715f7b94400fb46aaf4960d9acba3f8590c1cab7e917"), looks := false }, kinds := [], alts := [], laidByText := true, laidKinds := [.data, .data], laidTests := true, laidLooks := .later }
def TagsOwnCardSaid : Prop := Claim7.holds Tryd.pinned (.plain (OpenSpec.ofChange tagsOwnSpec)) tagsOwnCard

/-- THE SECOND FORM's CARD OF 'shalelaw06.TagsReads'. -/
def tagsReadsUptoCard : Claim7 := { stood := { row := tagsReadsUptoRow, standIns := [], harness := (true, "a45eaff3dc83ee2e853a715f7b94400fb46aaf4960d9acba3f8590c1cab7e917"), looks := false }, kinds := [], alts := [], laidByText := true, laidKinds := [.data], laidTests := true, laidLooks := .later }
def TagsReadsUptoCardSaid : Prop := Claim7.holds Tryd.pinned (.plain (OpenSpec.upto tagsReadsSpec)) tagsReadsUptoCard

/-- THE SECOND FORM's CARD OF 'shalelaw06.TagsLifts'. -/
def tagsLiftsUptoCard : Claim7 := { stood := { row := tagsLiftsUptoRow, standIns := [], harness := (true, "a45eaff3dc83ee2e853a715f7b94400fb46aaf4960d9acba3f8590c1cab7e917"), looks := false }, kinds := [], alts := [], laidByText := true, laidKinds := [.data], laidTests := true, laidLooks := .later }
def TagsLiftsUptoCardSaid : Prop := Claim7.holds Tryd.pinned (.plain (OpenSpec.upto tagsLiftsSpec)) tagsLiftsUptoCard

/-- THE SECOND FORM's CARD OF 'shalelaw06.TagsPacks'. -/
def tagsPacksUptoCard : Claim7 := { stood := { row := tagsPacksUptoRow, standIns := [], harness := (true, "a45eaff3dc83ee2e853a715f7b94400fb46aaf4960d9acba3f8590c1cab7e917"), looks := false }, kinds := [], alts := [], laidByText := true, laidKinds := [.data, .data], laidTests := true, laidLooks := .later }
def TagsPacksUptoCardSaid : Prop := Claim7.holds Tryd.pinned (.plain (OpenSpec.upto tagsPacksSpec)) tagsPacksUptoCard

/-- THE SECOND FORM's CARD OF 'shalelaw06.TagsBack'. -/
def tagsBackUptoCard : Claim7 := { stood := { row := tagsBackUptoRow, standIns := [], harness := (true, "a45eaff3dc83ee2e853a715f7b94400fb46aaf4960d9acba3f8590c1cab7e917"), looks := false }, kinds := [], alts := [], laidByText := true, laidKinds := [.data, .data], laidTests := true, laidLooks := .later }
def TagsBackUptoCardSaid : Prop := Claim7.holds Tryd.pinned (.plain (OpenSpec.upto tagsBackSpec)) tagsBackUptoCard

/-- THE SECOND FORM's CARD OF 'shalelaw06.TagsTorn'. -/
def tagsTornUptoCard : Claim7 := { stood := { row := tagsTornUptoRow, standIns := [], harness := (true, "a45eaff3dc83ee2e853a715f7b94400fb46aaf4960d9acba3f8590c1cab7e917"), looks := false }, kinds := [], alts := [], laidByText := true, laidKinds := [.data, .data], laidTests := true, laidLooks := .later }
def TagsTornUptoCardSaid : Prop := Claim7.holds Tryd.pinned (.plain (OpenSpec.upto tagsTornSpec)) tagsTornUptoCard

/-- THE SECOND FORM's CARD OF 'shalelaw06.TagsWider'. -/
def tagsWiderUptoCard : Claim7 := { stood := { row := tagsWiderUptoRow, standIns := [], harness := (true, "a45eaff3dc83ee2e853a715f7b94400fb46aaf4960d9acba3f8590c1cab7e917"), looks := false }, kinds := [], alts := [], laidByText := true, laidKinds := [.data, .data], laidTests := true, laidLooks := .later }
def TagsWiderUptoCardSaid : Prop := Claim7.holds Tryd.pinned (.plain (OpenSpec.upto tagsWiderSpec)) tagsWiderUptoCard

/-- THE SECOND FORM's CARD OF 'shalelaw06.TagsOwn'. -/
def tagsOwnUptoCard : Claim7 := { stood := { row := tagsOwnUptoRow, standIns := [], harness := (true, "a45eaff3dc83ee2e853a715f7b94400fb46aaf4960d9acba3f8590c1cab7e917"), looks := false }, kinds := [], alts := [], laidByText := true, laidKinds := [.data, .data], laidTests := true, laidLooks := .later }
def TagsOwnUptoCardSaid : Prop := Claim7.holds Tryd.pinned (.plain (OpenSpec.upto tagsOwnSpec)) tagsOwnUptoCard
end Rows
end Go.Proofs.YtekbjcagjkcaiaaDoor
