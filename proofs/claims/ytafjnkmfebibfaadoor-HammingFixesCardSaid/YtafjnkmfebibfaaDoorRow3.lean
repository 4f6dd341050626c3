/- How an array of three bytes that came in by value is opened. -/
import Derived.Test.YtafjnkmfebibfaaDoorRow
import Derived.Laws.IdiomArrays
namespace Go.Proofs.YtafjnkmfebibfaaDoor
open Go.ChangeShapes Go.WideShapes Go.ChangeAt Go.RowKit
set_option linter.unusedVariables false
theorem list3 {α : Type} (l : List α) (h : (⟨l⟩ : Array α).size = 3) : ∃ a b c, l = [a, b, c] := by
  match l, h with
  | [a, b, c], _ => exact ⟨a, b, c, rfl⟩
theorem open_arr3 {H : Type} {enc : TypeId × Value → H} {P : Program} {W : World} {r : Reach} {base base' : Nat} {spare : Nat → Bool} {held : Bool} {t e : TypeId} {v : Value} {d : DataW H} {ps : List MemPlace}
    (hu : P.underlying t = some (.array 3 e)) (he : P.underlying e = some (.int .u8)) (hce : P.cellsOf e = 1) (hct : P.cellsOf t = 3)
    (h : Value.okWide P W r base' t v) (hd : DataW.Trod enc P W base spare held t v d ps) : ∃ lq : List UInt8, lq.length = 3 ∧ v = .agg (u8s lq).toArray := by
  obtain ⟨cs, rfl, hsz⟩ : ∃ cs, v = .agg cs ∧ cs.size = P.cellsOf t := by
    unfold Value.okWide at h
    rw [hu] at h
    obtain ⟨cs, h1, h2, _⟩ := h
    exact ⟨cs, h1, h2⟩
  rw [hct] at hsz
  obtain ⟨l⟩ := cs
  obtain ⟨c0, c1, c2, rfl⟩ := list3 l hsz
  obtain ⟨fuel, hf⟩ := hd
  obtain ⟨y0, y1, y2, m, _, hy0, hy1, hy2⟩ := trod_array3 hu hce hf
  obtain ⟨x0, e0, rfl, w0⟩ := DataW.trod_int he hy0
  obtain ⟨x1, e1, rfl, w1⟩ := DataW.trod_int he hy1
  obtain ⟨x2, e2, rfl, w2⟩ := DataW.trod_int he hy2
  simp at e0 e1 e2
  subst e0 e1 e2
  obtain ⟨b0, rfl⟩ := wf_u8 w0
  obtain ⟨b1, rfl⟩ := wf_u8 w1
  obtain ⟨b2, rfl⟩ := wf_u8 w2
  exact ⟨[b0, b1, b2], rfl, rfl⟩
end Go.Proofs.YtafjnkmfebibfaaDoor
