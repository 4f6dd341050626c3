/- How a struct of whole numbers that came in by value is opened. -/
import Derived.Test.YtagfcndpblekkaaRow
import Derived.ChangeSame
namespace Go.Proofs.Ytagfcndpblekkaa
open Go.ChangeShapes Go.WideShapes Go.ChangeAt Go.RowKit
set_option linter.unusedVariables false
theorem three {P : Program} {W : World} {r : Reach} {base : Nat} {t : TypeId} {v : Value} {fs : Array Field} (h : Value.okWide P W r base t v) (hu : P.underlying t = some (.struct fs)) (hc : P.cellsOf t = 3) : ∃ c0 c1 c2, v = .agg #[c0, c1, c2] := by
  obtain ⟨cs, rfl, hsz⟩ := okWide_struct hu h
  rw [hc] at hsz
  obtain ⟨l⟩ := cs
  match l, hsz with
  | [c0, c1, c2], _ => exact ⟨c0, c1, c2, rfl⟩
theorem eight {P : Program} {W : World} {r : Reach} {base : Nat} {t : TypeId} {v : Value} {fs : Array Field} (h : Value.okWide P W r base t v) (hu : P.underlying t = some (.struct fs)) (hc : P.cellsOf t = 8) : ∃ c0 c1 c2 c3 c4 c5 c6 c7, v = .agg #[c0, c1, c2, c3, c4, c5, c6, c7] := by
  obtain ⟨cs, rfl, hsz⟩ := okWide_struct hu h
  rw [hc] at hsz
  obtain ⟨l⟩ := cs
  match l, hsz with
  | [c0, c1, c2, c3, c4, c5, c6, c7], _ => exact ⟨c0, c1, c2, c3, c4, c5, c6, c7, rfl⟩
/-- The field number i of a struct by value is a whole number of its kind. -/
theorem field_intw {H : Type} {enc : TypeId × Value → H} {P : Program} {W : World} {base : Nat} {spare : Nat → Bool} {held : Bool} {t : TypeId} {fs : Array Field} {cs : Array Value} {d : DataW H} {ps : List MemPlace} (i : Nat) {f : Field} {k : IntKind}
    (ht : P.underlying t = some (.struct fs)) (h : DataW.Trod enc P W base spare held t (.agg cs) d ps) (hf : fs[i]? = some f) (ho : f.offset = i) (hk : P.underlying f.type = some (.int k)) (hc : P.cellsOf f.type = 1) : ∃ x, cs[i]? = some (.int k x) ∧ (Lit.int k x).wf = true := by
  obtain ⟨fuel, hh⟩ := h
  obtain ⟨xs, n, _, _, hl, hlen, hall⟩ := DataW.trod_struct ht hh
  have hi : i < xs.length := by
    rw [hlen]
    rcases Nat.lt_or_ge i fs.size with h1 | h1
    · exact h1
    · rw [Array.getElem?_eq_none h1] at hf; cases hf
  have h1 := hall i f hf
  rw [List.getElem?_eq_getElem hi] at h1
  obtain ⟨x, hx, _, hw⟩ := DataW.trod_int hk h1
  rw [ho, hc] at hx
  refine ⟨x, ?_, hw⟩
  have h2 : ((Value.agg cs).cells.toList.drop i).take 1 = [.int k x] := hx
  have h3 := congrArg (fun l => l[0]?) h2
  simpa [Value.cells, List.getElem?_take, List.getElem?_drop] using h3
theorem wf_u64b {x : Int} (h : (Lit.int .u64 x).wf = true) : 0 ≤ x ∧ x ≤ 18446744073709551615 := by
  simpa [Lit.wf, IntKind.min, IntKind.max, IntKind.signed, IntKind.bits] using h
end Go.Proofs.Ytagfcndpblekkaa
