/-
  DERIVED. GIVEN WITH THE SEED: THE CARDS: each row of YtafjnkmfebibfaaDoorRows.lean that lists a variable, with what it lists TIED to the program's text (the seventh form; the later family's looks); each row that meets fmt, with fmt's text TOLD by the authors' own Lean function (tested against real Go, not proved from fmt's source: count such statements apart). THE CARD IS WHAT COUNTS. Prove the row's statement (the work); the ties are given (YtafjnkmfebibfaaDoorTie.lean); close each card by the builder's one call (the guide's Derived/Test/ToyasCard.lean, 'card_holds'). Laid BY PROGRAM, IN A SANDBOX (cutbox-door.mjs). By AI agents, Wed Nov 11 2026. No macro, syntax, notation, axiom, sorry.
-/
import Derived.Test.YtafjnkmfebibfaaDoorRows
import GoSem.ClaimSeven
namespace Go.Proofs.YtafjnkmfebibfaaDoor
namespace Rows

/-- THE TIED CARD OF 'shalelaw02.HammingFixes'. -/
def hammingFixesCard : Claim7 := { stood := { row := hammingFixesRow, standIns := [], harness := (true, "f0680b575586b2ac25392fec957723039ccf10208042e40a902d528a542ac07b"), looks := false }, kinds := [], alts := [], laidByText := true, laidKinds := [.data], laidTests := true, laidLooks := .later }
def HammingFixesCardSaid : Prop := Claim7.holds Tryd.pinned (.plain (OpenSpec.ofChange hammingFixesSpec)) hammingFixesCard

/-- THE TIED CARD OF 'shalelaw02.HammingOne'. -/
def hammingOneCard : Claim7 := { stood := { row := hammingOneRow, standIns := [], harness := (true, "f0680b575586b2ac25392fec957723039ccf10208042e40a902d528a542ac07b"), looks := false }, kinds := [], alts := [], laidByText := true, laidKinds := [.data], laidTests := true, laidLooks := .later }
def HammingOneCardSaid : Prop := Claim7.holds Tryd.pinned (.plain (OpenSpec.ofChange hammingOneSpec)) hammingOneCard

/-- THE TIED CARD OF 'shalelaw02.HammingTwo'. -/
def hammingTwoCard : Claim7 := { stood := { row := hammingTwoRow, standIns := [], harness := (true, "f0680b575586b2ac25392fec957723039ccf10208042e40a902d528a542ac07b"), looks := false }, kinds := [], alts := [], laidByText := true, laidKinds := [.data], laidTests := true, laidLooks := .later }
def HammingTwoCardSaid : Prop := Claim7.holds Tryd.pinned (.plain (OpenSpec.ofChange hammingTwoSpec)) hammingTwoCard

/-- THE TIED CARD OF 'shalelaw02.HammingNear'. -/
def hammingNearCard : Claim7 := { stood := { row := hammingNearRow, standIns := [], harness := (true, "f0680b575586b2ac25392fec957723039ccf10208042e40a902d528a542ac07b"), looks := false }, kinds := [], alts := [], laidByText := true, laidKinds := [.data], laidTests := true, laidLooks := .later }
def HammingNearCardSaid : Prop := Claim7.holds Tryd.pinned (.plain (OpenSpec.ofChange hammingNearSpec)) hammingNearCard

/-- THE TIED CARD OF 'shalelaw02.HammingRises'. -/
def hammingRisesCard : Claim7 := { stood := { row := hammingRisesRow, standIns := [], harness := (true, "f0680b575586b2ac25392fec957723039ccf10208042e40a902d528a542ac07b"), looks := false }, kinds := [], alts := [], laidByText := true, laidKinds := [.data], laidTests := true, laidLooks := .later }
def HammingRisesCardSaid : Prop := Claim7.holds Tryd.pinned (.plain (OpenSpec.ofChange hammingRisesSpec)) hammingRisesCard

/-- THE SECOND FORM's CARD OF 'shalelaw02.HammingFixes'. -/
def hammingFixesUptoCard : Claim7 := { stood := { row := hammingFixesUptoRow, standIns := [], harness := (true, "f0680b575586b2ac25392fec957723039ccf10208042e40a902d528a542ac07b"), looks := false }, kinds := [], alts := [], laidByText := true, laidKinds := [.data], laidTests := true, laidLooks := .later }
def HammingFixesUptoCardSaid : Prop := Claim7.holds Tryd.pinned (.plain (OpenSpec.upto hammingFixesSpec)) hammingFixesUptoCard

/-- THE SECOND FORM's CARD OF 'shalelaw02.HammingOne'. -/
def hammingOneUptoCard : Claim7 := { stood := { row := hammingOneUptoRow, standIns := [], harness := (true, "f0680b575586b2ac25392fec957723039ccf10208042e40a902d528a542ac07b"), looks := false }, kinds := [], alts := [], laidByText := true, laidKinds := [.data], laidTests := true, laidLooks := .later }
def HammingOneUptoCardSaid : Prop := Claim7.holds Tryd.pinned (.plain (OpenSpec.upto hammingOneSpec)) hammingOneUptoCard

/-- THE SECOND FORM's CARD OF 'shalelaw02.HammingTwo'. -/
def hammingTwoUptoCard : Claim7 := { stood := { row := hammingTwoUptoRow, standIns := [], harness := (true, "f0680b575586b2ac25392fec957723039ccf10208042e40a902d528a542ac07b"), looks := false }, kinds := [], alts := [], laidByText := true, laidKinds := [.data], laidTests := true, laidLooks := .later }
def HammingTwoUptoCardSaid : Prop := Claim7.holds Tryd.pinned (.plain (OpenSpec.upto hammingTwoSpec)) hammingTwoUptoCard

/-- THE SECOND FORM's CARD OF 'shalelaw02.HammingNear'. -/
def hammingNearUptoCard : Claim7 := { stood := { row := hammingNearUptoRow, standIns := [], harness := (true, "f0680b575586b2ac25392fec957723039ccf10208042e40a902d528a542ac07b"), looks := false }, kinds := [], alts := [], laidByText := true, laidKinds := [.data], laidTests := true, laidLooks := .later }
def HammingNearUptoCardSaid : Prop := Claim7.holds Tryd.pinned (.plain (OpenSpec.upto hammingNearSpec)) hammingNearUptoCard

/-- THE SECOND FORM's CARD OF 'shalelaw02.HammingRises'. -/
def hammingRisesUptoCard : Claim7 := { stood := { row := hammingRisesUptoRow, standIns := [], harness := (true, "f0680b575586b2ac25392fec957723039ccf10208042e40a902d528a542ac07b"), looks := false }, kinds := [], alts := [], laidByText := true, laidKinds := [.data], laidTests := true, laidLooks := .later }
def HammingRisesUptoCardSaid : Prop := Claim7.holds Tryd.pinned (.plain (OpenSpec.upto hammingRisesSpec)) hammingRisesUptoCard
end Rows
end Go.Proofs.YtafjnkmfebibfaaDoor
