/- What a kind's rule lets be: the printed functions in plain words. -/
import Derived.Test.YtekbjcagjkcaiaaPTagsChecksx
namespace Go.Proofs.Ytekbjcagjkcaiaa
open Go.RowKit Go.Proofs.Ytekbjcagjkcaiaa.PTagsChecks Go.Proofs.YtekbjcagjkcaiaaW.PrintWords
set_option linter.unusedVariables false
set_option linter.unusedSimpArgs false
def mayS (k f o c n : Int) : Bool :=
  if k = 2 then decide ((f = 0 ∨ f = 1) ∧ 2 ≤ o ∧ o ≤ 1048575 ∧ c = 0 ∧ 1 ≤ n)
  else if k = 3 then decide ((f = 0 ∨ f = 1 ∨ f = 2) ∧ 2 ≤ o ∧ o ≤ 1048575 ∧ 0 ≤ c ∧ c ≤ 1048575 ∧ 1 ≤ n)
  else if k = 4 then decide ((f = 0 ∨ f = 4) ∧ 1 ≤ o ∧ o ≤ 65536 ∧ 0 ≤ c ∧ c ≤ 65536 ∧ 4 ≤ n ∧ c < o ∧ (f = 4 ↔ c = o - 1))
  else decide (f = 0 ∧ o = 0 ∧ c = 0 ∧ n = 0)
theorem may1 (f se be o c n z : Int) : tags_rule_may.f 6 [0] 0 0 0 0 true 1 f se be o c n z = some (mayS 1 f o c n) := by
  simp only [tags_rule_may.f, tags_rule_may.l0, tags_rule_may.j1, mayS]
  by_cases h1 : f = 0
  · subst h1
    simp [rd, wrap64]
    repeat' split
    all_goals first | omega | (simp; omega) | simp_all
  · simp [rd, wrap64, h1, Ne.symm h1]
theorem may2 (f se be o c n z : Int) : tags_rule_may.f 6 [0, 1] 2 1048575 0 1 false 2 f se be o c n z = some (mayS 2 f o c n) := by
  simp only [tags_rule_may.f, tags_rule_may.l0, tags_rule_may.j1, mayS]
  by_cases h1 : f = 0
  · subst h1
    simp [rd, wrap64]
    repeat' split
    all_goals first | omega | (simp; omega) | simp_all
  · by_cases h2 : f = 1
    · subst h2
      simp [rd, wrap64]
      repeat' split
      all_goals first | omega | (simp; omega) | simp_all
    · simp [rd, wrap64, h1, Ne.symm h1, h2, Ne.symm h2]
theorem may3 (f se be o c n z : Int) : tags_rule_may.f 6 [0, 1, 2] 2 1048575 1048575 1 false 3 f se be o c n z = some (mayS 3 f o c n) := by
  simp only [tags_rule_may.f, tags_rule_may.l0, tags_rule_may.j1, mayS]
  by_cases h1 : f = 0
  · subst h1
    simp [rd, wrap64]
    repeat' split
    all_goals first | omega | (simp; omega) | simp_all
  · by_cases h2 : f = 1
    · subst h2
      simp [rd, wrap64]
      repeat' split
      all_goals first | omega | (simp; omega) | simp_all
    · by_cases h3 : f = 2
      · subst h3
        simp [rd, wrap64]
        repeat' split
        all_goals first | omega | (simp; omega) | simp_all
      · simp [rd, wrap64, h1, Ne.symm h1, h2, Ne.symm h2, h3, Ne.symm h3]
theorem may4 (f se be o c n z : Int) : tags_rule_may.f 6 [0, 4] 1 65536 65536 4 false 4 f se be o c n z = some (mayS 4 f o c n) := by
  simp only [tags_rule_may.f, tags_rule_may.l0, tags_rule_may.j1, mayS]
  by_cases h1 : f = 0
  · subst h1
    simp [rd, wrap64]
    repeat' split
    all_goals first | omega | (simp; omega) | simp_all
    all_goals (rw [Bool.eq_iff_iff]; simp; omega)
  · by_cases h2 : f = 4
    · subst h2
      simp [rd, wrap64]
      repeat' split
      all_goals first | omega | (simp; omega) | simp_all
      all_goals (rw [Bool.eq_iff_iff]; simp; omega)
    · simp [rd, wrap64, h1, Ne.symm h1, h2, Ne.symm h2]
/-- Rule and may together. -/
theorem rule_may (k f se be o c n z : Int) (h : 1 ≤ k ∧ k ≤ 4) : ∃ r1 r2 r3 r4 r5 r6, tags_ruleOf.f k = some (r1, r2, r3, r4, r5, r6) ∧ tags_rule_may.f 6 r1 r2 r3 r4 r5 r6 k f se be o c n z = some (mayS k f o c n) := by
  have : k = 1 ∨ k = 2 ∨ k = 3 ∨ k = 4 := by omega
  rcases this with rfl | rfl | rfl | rfl
  · exact ⟨[0], 0, 0, 0, 0, true, rfl, may1 f se be o c n z⟩
  · exact ⟨[0, 1], 2, 1048575, 0, 1, false, rfl, may2 f se be o c n z⟩
  · exact ⟨[0, 1, 2], 2, 1048575, 1048575, 1, false, rfl, may3 f se be o c n z⟩
  · exact ⟨[0, 4], 1, 65536, 65536, 4, false, rfl, may4 f se be o c n z⟩
end Go.Proofs.Ytekbjcagjkcaiaa
