/- Walks of part, bytes.Clone, and of both Pages (layer image). -/
import Derived.Test.YtloamkbkcdhaiaaIl
import Derived.Test.YtloamkbkcdhaiaaOwn
namespace Go.Proofs.Ytloamkbkcdhaiaa
open Go.RowKit Go.Proofs.Ytloamkbkcdhaiaa.PImageChecks Go.Proofs.YtloamkbkcdhaiaaW.PrintWords
set_option linter.unusedVariables false
set_option linter.unusedSimpArgs false
/-- A part of a list. -/
def ptI (l : List Int) (i d : Nat) : List Int := (l.drop i).take d
theorem ptI_len (l : List Int) (i d : Nat) (h : i + d ≤ l.length) : (ptI l i d).length = d := by unfold ptI; rw [List.length_take, List.length_drop]; omega
theorem ptI_succ (l : List Int) (i d : Nat) (h : i + d < l.length) : ptI l i (d + 1) = ptI l i d ++ [l.getD (i + d) 0] := by
  unfold ptI
  rw [List.take_add_one, List.getElem?_drop, List.getElem?_eq_getElem h, List.getD_eq_getElem?_getD, List.getElem?_eq_getElem h]
  rfl
theorem ptI_ptI (l : List Int) (i d j e : Nat) (h : j + e ≤ d) : ptI (ptI l i d) j e = ptI l (i + j) e := by
  unfold ptI
  rw [List.drop_take, List.take_take, List.drop_drop, Nat.min_eq_left (by omega)]
theorem ints_at (l : List Int) (k : Nat) (h : k < l.length) : (ints l)[k]? = some (.int .u8 (l.getD k 0)) := by
  rw [List.getD_eq_getElem?_getD, List.getElem?_eq_getElem h]
  simp [ints, h]
theorem rd_ptI {w : World} {ad : Addr} {l : List Int} (i k : Nat) (h : Rd w (some ad) (ints l)) : Rd w (some (ad.add i)) (ints (ptI l i k)) := fun hne => ⟨ad.add i, rfl, fun j u hu => by
  have hj : (ints l)[i + j]? = some u := by
    unfold ints ptI at *
    rw [List.getElem?_map] at hu ⊢
    rw [List.getElem?_take] at hu
    split at hu
    · rw [List.getElem?_drop] at hu; exact hu
    · cases hu
  obtain ⟨ad', e, hc⟩ := h (by intro e; rw [e] at hj; cases hj)
  cases e
  have h2 := hc _ _ hj
  rw [Addr.add_add]
  exact h2⟩
theorem ck_zero {b p s : Int} {l : List Int} {lb : List Bool} (h : shaleref20_Check.f b p s l lb = some 0) : 8 ≤ b ∧ b ≤ 4096 ∧ 4 ≤ p ∧ p ≤ 256 ∧ 1 ≤ s ∧ s ≤ 8 ∧ b * p ≤ 65536 ∧ 0 ≤ b * p ∧ (l.length : Int) = b * p * (259 * s + 54) ∧ (lb.length : Int) = b := by
  obtain ⟨r, h1, h2, h3⟩ := shape_i b p s
  unfold shaleref20_Check.f shaleref20_long.f shaleref20_spare.f at h
  rw [h2] at h
  cases r with
  | false => simp at h
  | true =>
    have h4 := h3 rfl
    have hs : 8 ≤ b ∧ b ≤ 4096 ∧ 4 ≤ p ∧ p ≤ 256 ∧ wrap64 (b * p) ≤ 65536 := by
      unfold shaleref04_Shape.f at h2
      split at h2
      · cases h2
      split at h2
      · cases h2
      split at h2
      · cases h2
      split at h2
      · cases h2
      split at h2
      · cases h2
      split at h2
      · cases h2
      have := of_decide_eq_true (Option.some.inj h2)
      omega
    have hb0 : 0 ≤ b * p := Int.mul_nonneg (by omega) (by omega)
    have hb1 : b * p ≤ 4096 * 256 := Int.mul_le_mul (by omega) (by omega) (by omega) (by omega)
    have e0 : wrap64 (b * p) = b * p := by unfold wrap64; omega
    have e2 : wrap64 (256 * s) = 256 * s := by unfold wrap64; omega
    have e3 : wrap64 (3 * s) = 3 * s := by unfold wrap64; omega
    have e4 : wrap64 (54 + 3 * s) = 54 + 3 * s := by unfold wrap64; omega
    have e5 : wrap64 (256 * s + (54 + 3 * s)) = 259 * s + 54 := by unfold wrap64; omega
    have e6 : wrap64 (b * p * (259 * s + 54)) = b * p * (259 * s + 54) := by
      have h5 : 0 ≤ b * p * (259 * s + 54) := Int.mul_nonneg hb0 (by omega)
      have h6 : b * p * (259 * s + 54) ≤ (4096 * 256) * 3000 := Int.mul_le_mul hb1 (by omega) (by omega) (by omega)
      unfold wrap64; omega
    simp only [Option.bind_some, if_true, e0, e2, e3, e4, e5, e6] at h
    rw [e0] at hs
    split at h
    · rename_i c1
      split at h
      · rename_i c2; exact ⟨hs.1, hs.2.1, hs.2.2.1, hs.2.2.2.1, h4.1, h4.2, hs.2.2.2.2, hb0, c1, c2⟩
      · cases h
    · cases h
end Go.Proofs.Ytloamkbkcdhaiaa
