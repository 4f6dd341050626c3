/-
  DERIVED. GIVEN WITH THE SEED: THE CARDS: each row of YtelpdcggpahocaaDoorRows.lean that lists a variable, with what it lists TIED to the program's text (the seventh form; the later family's looks); each row that meets fmt, with fmt's text TOLD by the authors' own Lean function (tested against real Go, not proved from fmt's source: count such statements apart). THE CARD IS WHAT COUNTS. Prove the row's statement (the work); the ties are given (YtelpdcggpahocaaDoorTie.lean); close each card by the builder's one call (the guide's Derived/Test/ToyasCard.lean, 'card_holds'). Laid BY PROGRAM, IN A SANDBOX (cutbox-door.mjs). By AI agents, Wed Nov 11 2026. No macro, syntax, notation, axiom, sorry.
-/
import Derived.Test.YtelpdcggpahocaaDoorRows
import GoSem.ClaimSeven
namespace Go.Proofs.YtelpdcggpahocaaDoor
namespace Rows

/-- THE TIED CARD OF 'shalelaw01.WordsSums'. -/
def wordsSumsCard : Claim7 := { stood := { row := wordsSumsRow, standIns := [], harness := (true, "54d1229df5fb30c8c07d4e3a256e699e9f97da1ab8f84e03bcd54af3d1d66e49"), looks := false }, kinds := [], alts := [], laidByText := true, laidKinds := [.data], laidTests := true, laidLooks := .later }
def WordsSumsCardSaid : Prop := Claim7.holds Tryd.pinned (.plain (OpenSpec.ofChange wordsSumsSpec)) wordsSumsCard

/-- THE TIED CARD OF 'shalelaw01.WordsLinear'. -/
def wordsLinearCard : Claim7 := { stood := { row := wordsLinearRow, standIns := [], harness := (true, "54d1229df5fb30c8c07d4e3a256e699e9f97da1ab8f84e03bcd54af3d1d66e49"), looks := false }, kinds := [], alts := [], laidByText := true, laidKinds := [.data], laidTests := true, laidLooks := .later }
def WordsLinearCardSaid : Prop := Claim7.holds Tryd.pinned (.plain (OpenSpec.ofChange wordsLinearSpec)) wordsLinearCard

/-- THE SECOND FORM's CARD OF 'shalelaw01.WordsSums'. -/
def wordsSumsUptoCard : Claim7 := { stood := { row := wordsSumsUptoRow, standIns := [], harness := (true, "54d1229df5fb30c8c07d4e3a256e699e9f97da1ab8f84e03bcd54af3d1d66e49"), looks := false }, kinds := [], alts := [], laidByText := true, laidKinds := [.data], laidTests := true, laidLooks := .later }
def WordsSumsUptoCardSaid : Prop := Claim7.holds Tryd.pinned (.plain (OpenSpec.upto wordsSumsSpec)) wordsSumsUptoCard

/-- THE SECOND FORM's CARD OF 'shalelaw01.WordsLinear'. -/
def wordsLinearUptoCard : Claim7 := { stood := { row := wordsLinearUptoRow, standIns := [], harness := (true, "54d1229df5fb30c8c07d4e3a256e699e9f97da1ab8f84e03bcd54af3d1d66e49"), looks := false }, kinds := [], alts := [], laidByText := true, laidKinds := [.data], laidTests := true, laidLooks := .later }
def WordsLinearUptoCardSaid : Prop := Claim7.holds Tryd.pinned (.plain (OpenSpec.upto wordsLinearSpec)) wordsLinearUptoCard
end Rows
end Go.Proofs.YtelpdcggpahocaaDoor
