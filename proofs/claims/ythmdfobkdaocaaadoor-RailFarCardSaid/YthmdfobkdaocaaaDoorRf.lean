/- Plain words: unlike rows are laid four bits apart, and each laid byte has four ones. -/
import Derived.Test.YthmdfobkdaocaaaDoorRv
namespace Go.Proofs.YthmdfobkdaocaaaDoor
set_option linter.unusedSimpArgs false
set_option linter.unusedVariables false
theorem sp_four : ∀ x : Fin 16, apTo [sp4 x.val] [0] 8 = 4 := by decide +kernel
theorem lay_four (l : List UInt8) (i : Nat) (hi : i < 2 * l.length + 2) : apTo [bt (layB l) i] [0] 8 = 4 := by
  obtain ⟨h1, h2⟩ := layAll_bt (withC l) (i / 2) (by rw [withC_len]; omega)
  have hb := (bt (withC l) (i / 2)).toNat_lt
  rcases Nat.mod_two_eq_zero_or_one i with hm | hm
  · rw [show 2 * (i / 2) = i by omega] at h1
    unfold layB
    rw [h1]
    exact sp_four ⟨(bt (withC l) (i / 2)).toNat % 16, Nat.mod_lt _ (by decide)⟩
  · rw [show 2 * (i / 2) + 1 = i by omega] at h2
    unfold layB
    rw [h2]
    exact sp_four ⟨(bt (withC l) (i / 2)).toNat / 16, by omega⟩
theorem ap_zero (a b : List UInt8) : ∀ N, apTo a b N = 0 → ∀ n, n < N → apB a b n = 0
  | 0, _, n, hn => by omega
  | N + 1, h, n, hn => by
    rw [apTo] at h
    by_cases e : n = N
    · subst e; omega
    · exact ap_zero a b N (by omega) n (by omega)
theorem ap_one (a b : List UInt8) : ∀ N, apTo a b N = 1 → ∃ i, i < N ∧ apB a b i = 1 ∧ ∀ n, n < N → n ≠ i → apB a b n = 0
  | 0, h => by cases h
  | N + 1, h => by
    rw [apTo] at h
    by_cases e : apB a b N = 0
    · obtain ⟨i, h1, h2, h3⟩ := ap_one a b N (by omega)
      refine ⟨i, by omega, h2, fun n hn hne => ?_⟩
      by_cases e2 : n = N
      · subst e2; exact e
      · exact h3 n (by omega) hne
    · have hz := ap_zero a b N (by omega)
      exact ⟨N, by omega, by omega, fun n hn hne => hz n (by omega)⟩
theorem ap_same {a b : List UInt8} {n : Nat} (h : apB a b n = 0) : bitAt a n = bitAt b n := by
  rw [apB_bits] at h
  by_cases e : bitAt a n = bitAt b n
  · exact e
  · rw [if_neg e] at h; cases h
theorem with_two (l d : List UInt8) (hl : l.length = d.length) (hne : l ≠ d) : 2 ≤ apTo (withC l) (withC d) (8 * (l.length + 1)) := by
  apply Decidable.byContradiction
  intro hlt
  have hll := withC_len l
  have hld := withC_len d
  by_cases h0 : apTo (withC l) (withC d) (8 * (l.length + 1)) = 0
  · have hz := ap_zero _ _ _ h0
    have heq : withC l = withC d := bit_ext _ _ (by omega) (fun n hn => ap_same (hz n (by omega)))
    apply hne
    have := congrArg (List.take l.length) heq
    unfold withC at this
    rwa [List.take_left, hl, List.take_left] at this
  · obtain ⟨i, hi, h1, h2⟩ := ap_one (withC l) (withC d) (8 * (l.length + 1)) (by omega)
    have hflip : withC d = flipB (withC l) i := bit_ext _ _ (by rw [flipB_len]; omega) (fun n hn => by
      rw [flip_bits _ _ _ (by omega)]
      by_cases e : n = i
      · rw [if_pos e]
        rw [apB_bits, ← e] at h1
        have a := bitAt_or (withC l) n
        have b := bitAt_or (withC d) n
        by_cases e2 : bitAt (withC l) n = bitAt (withC d) n
        · rw [if_pos e2] at h1; cases h1
        · omega
      · rw [if_neg e]; exact (ap_same (h2 n (by omega) e)).symm)
    have hc := colsB_with d
    rw [hflip, colsB_flip _ _ (by omega), colsB_with, UInt8.zero_xor] at hc
    exact bit_ne_zero _ (by omega) hc
theorem ap_lay (l d : List UInt8) (hl : l.length = d.length) : ∀ M, M ≤ 8 * (l.length + 1) → apTo (layB l) (layB d) (2 * M) = 2 * apTo (withC l) (withC d) M
  | 0, _ => rfl
  | M + 1, h => by
    obtain ⟨h1, h2⟩ := layB_bits l M (by omega)
    obtain ⟨h3, h4⟩ := layB_bits d M (by omega)
    rw [show 2 * (M + 1) = 2 * M + 1 + 1 by omega, apTo, apTo, apTo, ap_lay l d hl M (by omega), apB_bits, apB_bits, apB_bits, h1, h2, h3, h4]
    have a := bitAt_or (withC l) M
    have b := bitAt_or (withC d) M
    rcases a with a | a <;> rcases b with b | b <;> rw [a, b] <;> simp <;> omega
theorem far_four (l d : List UInt8) (m : Nat) (hl : l.length = d.length) (hm : m = 2 * l.length + 2) (hne : l ≠ d) : 4 ≤ apTo (layB l) (layB d) (8 * m) := by
  have h1 := with_two l d hl hne
  have h2 := ap_lay l d hl (8 * (l.length + 1)) (Nat.le_refl _)
  rw [show 8 * m = 2 * (8 * (l.length + 1)) by omega, h2]
  omega
end Go.Proofs.YthmdfobkdaocaaaDoor
