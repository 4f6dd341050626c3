/- A slice that came in is no longer than its capacity. -/
import Derived.Test.YtekbjcagjkcaiaaDoorRow
namespace Go.Proofs.YtekbjcagjkcaiaaDoor
open Go.ChangeShapes Go.WideShapes Go.ChangeAt Go.RowKit
theorem cap_of_isRow {k : IntKind} {w : World} {a : Option Addr} {len cap : Nat} {zs : List Int} (h : IsRow k w a len cap zs) : len ≤ cap := by
  rcases h with ⟨_, rfl, rfl, _⟩ | ⟨_, _, h, _⟩
  · exact Nat.le_refl _
  · exact h
end Go.Proofs.YtekbjcagjkcaiaaDoor
