/-
  DERIVED. GIVEN WITH THE SEED: THE CARDS: each row of YthmdfobkdaocaaaDoorRows.lean that lists a variable, with what it lists TIED to the program's text (the seventh form; the later family's looks); each row that meets fmt, with fmt's text TOLD by the authors' own Lean function (tested against real Go, not proved from fmt's source: count such statements apart). THE CARD IS WHAT COUNTS. Prove the row's statement (the work); the ties are given (YthmdfobkdaocaaaDoorTie.lean); close each card by the builder's one call (the guide's Derived/Test/ToyasCard.lean, 'card_holds'). Laid BY PROGRAM, IN A SANDBOX (cutbox-door.mjs). By AI agents, Wed Nov 11 2026. No macro, syntax, notation, axiom, sorry.
-/
import Derived.Test.YthmdfobkdaocaaaDoorRows
import GoSem.ClaimSeven
namespace Go.Proofs.YthmdfobkdaocaaaDoor
namespace Rows

/-- THE TIED CARD OF 'shalelaw03.RailLays'. -/
def railLaysCard : Claim7 := { stood := { row := railLaysRow, standIns := [], harness := (true, "c478c0c22e9664203ac22aa47edff4eb9f39e82d532256986bd7f02842ea1f85"), looks := false }, kinds := [], alts := [], laidByText := true, laidKinds := [.data], laidTests := true, laidLooks := .later }
def RailLaysCardSaid : Prop := Claim7.holds Tryd.pinned (.plain (OpenSpec.ofChange railLaysSpec)) railLaysCard

/-- THE TIED CARD OF 'shalelaw03.RailBack'. -/
def railBackCard : Claim7 := { stood := { row := railBackRow, standIns := [], harness := (true, "c478c0c22e9664203ac22aa47edff4eb9f39e82d532256986bd7f02842ea1f85"), looks := false }, kinds := [], alts := [], laidByText := true, laidKinds := [.data], laidTests := true, laidLooks := .later }
def RailBackCardSaid : Prop := Claim7.holds Tryd.pinned (.plain (OpenSpec.ofChange railBackSpec)) railBackCard

/-- THE TIED CARD OF 'shalelaw03.RailTorn'. -/
def railTornCard : Claim7 := { stood := { row := railTornRow, standIns := [], harness := (true, "c478c0c22e9664203ac22aa47edff4eb9f39e82d532256986bd7f02842ea1f85"), looks := false }, kinds := [], alts := [], laidByText := true, laidKinds := [.data], laidTests := true, laidLooks := .later }
def RailTornCardSaid : Prop := Claim7.holds Tryd.pinned (.plain (OpenSpec.ofChange railTornSpec)) railTornCard

/-- THE TIED CARD OF 'shalelaw03.RailOne'. -/
def railOneCard : Claim7 := { stood := { row := railOneRow, standIns := [], harness := (true, "c478c0c22e9664203ac22aa47edff4eb9f39e82d532256986bd7f02842ea1f85"), looks := false }, kinds := [], alts := [], laidByText := true, laidKinds := [.data], laidTests := true, laidLooks := .later }
def RailOneCardSaid : Prop := Claim7.holds Tryd.pinned (.plain (OpenSpec.ofChange railOneSpec)) railOneCard

/-- THE TIED CARD OF 'shalelaw03.RailFar'. -/
def railFarCard : Claim7 := { stood := { row := railFarRow, standIns := [], harness := (true, "c478c0c22e9664203ac22aa47edff4eb9f39e82d532256986bd7f02842ea1f85"), looks := false }, kinds := [], alts := [], laidByText := true, laidKinds := [.data], laidTests := true, laidLooks := .later }
def RailFarCardSaid : Prop := Claim7.holds Tryd.pinned (.plain (OpenSpec.ofChange railFarSpec)) railFarCard

/-- THE TIED CARD OF 'shalelaw03.RailOwn'. -/
def railOwnCard : Claim7 := { stood := { row := railOwnRow, standIns := [], harness := (true, "c478c0c22e9664203ac22aa47edff4eb9f39e82d532256986bd7f02842ea1f85"), looks := false }, kinds := [], alts := [], laidByText := true, laidKinds := [.data], laidTests := true, laidLooks := .later }
def RailOwnCardSaid : Prop := Claim7.holds Tryd.pinned (.plain (OpenSpec.ofChange railOwnSpec)) railOwnCard

/-- THE SECOND FORM's CARD OF 'shalelaw03.RailLays'. -/
def railLaysUptoCard : Claim7 := { stood := { row := railLaysUptoRow, standIns := [], harness := (true, "c478c0c22e9664203ac22aa47edff4eb9f39e82d532256986bd7f02842ea1f85"), looks := false }, kinds := [], alts := [], laidByText := true, laidKinds := [.data], laidTests := true, laidLooks := .later }
def RailLaysUptoCardSaid : Prop := Claim7.holds Tryd.pinned (.plain (OpenSpec.upto railLaysSpec)) railLaysUptoCard

/-- THE SECOND FORM's CARD OF 'shalelaw03.RailBack'. -/
def railBackUptoCard : Claim7 := { stood := { row := railBackUptoRow, standIns := [], harness := (true, "c478c0c22e9664203ac22aa47edff4eb9f39e82d532256986bd7f02842ea1f85"), looks := false }, kinds := [], alts := [], laidByText := true, laidKinds := [.data], laidTests := true, laidLooks := .later }
def RailBackUptoCardSaid : Prop := Claim7.holds Tryd.pinned (.plain (OpenSpec.upto railBackSpec)) railBackUptoCard

/-- THE SECOND FORM's CARD OF 'shalelaw03.RailTorn'. -/
def railTornUptoCard : Claim7 := { stood := { row := railTornUptoRow, standIns := [], harness := (true, "c478c0c22e9664203ac22aa47edff4eb9f39e82d532256986bd7f02842ea1f85"), looks := false }, kinds := [], alts := [], laidByText := true, laidKinds := [.data], laidTests := true, laidLooks := .later }
def RailTornUptoCardSaid : Prop := Claim7.holds Tryd.pinned (.plain (OpenSpec.upto railTornSpec)) railTornUptoCard

/-- THE SECOND FORM's CARD OF 'shalelaw03.RailOne'. -/
def railOneUptoCard : Claim7 := { stood := { row := railOneUptoRow, standIns := [], harness := (true, "c478c0c22e9664203ac22aa47edff4eb9f39e82d532256986bd7f02842ea1f85"), looks := false }, kinds := [], alts := [], laidByText := true, laidKinds := [.data], laidTests := true, laidLooks := .later }
def RailOneUptoCardSaid : Prop := Claim7.holds Tryd.pinned (.plain (OpenSpec.upto railOneSpec)) railOneUptoCard

/-- THE SECOND FORM's CARD OF 'shalelaw03.RailFar'. -/
def railFarUptoCard : Claim7 := { stood := { row := railFarUptoRow, standIns := [], harness := (true, "c478c0c22e9664203ac22aa47edff4eb9f39e82d532256986bd7f02842ea1f85"), looks := false }, kinds := [], alts := [], laidByText := true, laidKinds := [.data], laidTests := true, laidLooks := .later }
def RailFarUptoCardSaid : Prop := Claim7.holds Tryd.pinned (.plain (OpenSpec.upto railFarSpec)) railFarUptoCard

/-- THE SECOND FORM's CARD OF 'shalelaw03.RailOwn'. -/
def railOwnUptoCard : Claim7 := { stood := { row := railOwnUptoRow, standIns := [], harness := (true, "c478c0c22e9664203ac22aa47edff4eb9f39e82d532256986bd7f02842ea1f85"), looks := false }, kinds := [], alts := [], laidByText := true, laidKinds := [.data], laidTests := true, laidLooks := .later }
def RailOwnUptoCardSaid : Prop := Claim7.holds Tryd.pinned (.plain (OpenSpec.upto railOwnSpec)) railOwnUptoCard
end Rows
end Go.Proofs.YthmdfobkdaocaaaDoor
