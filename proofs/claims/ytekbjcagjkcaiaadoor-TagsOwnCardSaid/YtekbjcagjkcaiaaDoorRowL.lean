/- How a package's table of pairs of numbers is opened. -/
import Derived.Test.YtekbjcagjkcaiaaDoorRow
import Derived.Lib.LaidTab
import Derived.ChangeSame
namespace Go.Proofs.YtekbjcagjkcaiaaDoor
open Go.ChangeShapes Go.WideShapes Go.ChangeAt Go.RowKit Go.Lib
set_option linter.unusedVariables false
def pairData {H : Type} (k : IntKind) (zs : List (Int × Int)) : DataW H := .agg (zs.map fun z => .agg [.lit (.int k z.1), .lit (.int k z.2)])
theorem cells_of_pairs {H : Type} {enc : TypeId × Value → H} {P : Program} {w : World} {base : Nat} {sp : Nat → Bool} {held : Bool} {fuel : Nat} {t e : TypeId} {n : Nat} {k : IntKind} {cs : List Value} {zs : List (Int × Int)} {p : List MemPlace} {f0 f1 : Field}
    (ht : P.underlying t = some (.array n e)) (he : P.underlying e = some (.struct #[f0, f1])) (h0 : P.underlying f0.type = some (.int k)) (h1 : P.underlying f1.type = some (.int k)) (ho0 : f0.offset = 0) (ho1 : f1.offset = 1)
    (hc0 : P.cellsOf f0.type = 1) (hc1 : P.cellsOf f1.type = 1) (hce : P.cellsOf e = 2)
    (h : DataW.trod enc P w base sp held fuel t cs = some (pairData k zs, p)) : ∀ (i : Nat) (z : Int × Int), zs[i]? = some z → cs[2 * i]? = some (.int k z.1) ∧ cs[2 * i + 1]? = some (.int k z.2) := by
  cases fuel with
  | zero => simp [DataW.trod] at h
  | succ fuel =>
    simp only [DataW.trod, ht, hce] at h
    split at h
    · rename_i hl
      obtain ⟨xs, hm, hx⟩ := Option.map_eq_some_iff.1 h
      have hxs : xs.map (·.1) = zs.map fun z => (DataW.agg [.lit (.int k z.1), .lit (.int k z.2)] : DataW H) := by
        have := congrArg Prod.fst hx
        simpa [pairData] using this
      have hxl : xs.length = n := by simpa using mapM_length hm
      have hzl : zs.length = n := by
        have := congrArg List.length hxs
        simp at this
        omega
      intro i z hz
      have hi : i < n := by
        rcases Nat.lt_or_ge i zs.length with h2 | h2
        · omega
        · rw [List.getElem?_eq_none h2] at hz; cases hz
      obtain ⟨b, hb, hf⟩ := mapM_at hm i i (by simp [hi])
      obtain ⟨y0, y1, m, rfl, _, hy0, hy1⟩ := trod_struct2 he hf
      obtain ⟨v0, e0, rfl, _⟩ := DataW.trod_int h0 hy0
      obtain ⟨v1, e1, rfl, _⟩ := DataW.trod_int h1 hy1
      rw [ho0, hc0] at e0
      rw [ho1, hc1] at e1
      have h2 : (xs.map (·.1))[i]? = some (DataW.agg [.lit (.int k v0), .lit (.int k v1)] : DataW H) := by simp [hb]
      rw [hxs, List.getElem?_map, hz] at h2
      simp only [Option.map_some, Option.some.injEq, DataW.agg.injEq, List.cons.injEq, DataW.lit.injEq, Lit.int.injEq, true_and, and_true] at h2
      have q0 := congrArg (·[0]?) e0
      have q1 := congrArg (·[0]?) e1
      simp [List.getElem?_drop] at q0 q1
      rw [h2.1, h2.2, show 2 * i = i * 2 by omega]
      exact ⟨by simpa using q0, by simpa using q1⟩
    · cases h
theorem pairs_of_head {P : Program} {W : World} {name : String} {k : IntKind} {zs : List (Int × Int)} {rest : List (String × DataW Unit)} {g : Nat} {t e : TypeId} {n : Nat} {f0 f1 : Field}
    (hg : P.globalNamed name = some g) (hty : (P.globals[g]?).map (·.type) = some t) (ht : P.underlying t = some (.array n e)) (he : P.underlying e = some (.struct #[f0, f1])) (h0 : P.underlying f0.type = some (.int k)) (h1 : P.underlying f1.type = some (.int k)) (ho0 : f0.offset = 0) (ho1 : f1.offset = 1)
    (hc0 : P.cellsOf f0.type = 1) (hc1 : P.cellsOf f1.type = 1) (hce : P.cellsOf e = 2)
    (h : laidMet P ((name, pairData k zs) :: rest) W) : ∀ (i : Nat) (z : Int × Int), zs[i]? = some z → W.cell? ⟨g, 2 * i, none⟩ = some (.int k z.1) ∧ W.cell? ⟨g, 2 * i + 1, none⟩ = some (.int k z.2) := by
  obtain ⟨ps, ⟨g', t', cs, fuel, p, q, hg', ht', hvar, hd, _, _⟩, _⟩ := h
  obtain rfl := Option.some.inj (hg.symm.trans hg')
  obtain rfl := Option.some.inj (hty.symm.trans ht')
  intro i z hz
  obtain ⟨q0, q1⟩ := cells_of_pairs ht he h0 h1 ho0 ho1 hc0 hc1 hce hd i z hz
  have c0 := World.var?_cell hg hvar (2 * i)
  have c1 := World.var?_cell hg hvar (2 * i + 1)
  rw [c0, c1]
  exact ⟨by simpa using q0, by simpa using q1⟩
end Go.Proofs.YtekbjcagjkcaiaaDoor
