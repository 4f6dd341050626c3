/- Tags that may be fit. -/
import Derived.Test.YtekbjcagjkcaiaaDoorTj
import Derived.Test.YtekbjcagjkcaiaaDoorTz
namespace Go.Proofs.YtekbjcagjkcaiaaDoor
open Go.RowKit
set_option linter.unusedVariables false
set_option linter.unusedSimpArgs false
theorem may_parts {kn em : Bool} {a b c d k f o ch n : Int} (h : mayD kn em a b c d k f o ch n = true) : kn = true ∧ mayP a b c d k f o ch n ∧ (em = true → n ≤ 0) := by
  cases kn with
  | false => cases h
  | true =>
    cases em with
    | true =>
      have h1 := of_decide_eq_true (show decide (mayP a b c d k f o ch n ∧ n ≤ 0) = true from h)
      exact ⟨rfl, h1.1, fun _ => h1.2⟩
    | false =>
      have h1 := of_decide_eq_true (show decide (mayP a b c d k f o ch n) = true from h)
      exact ⟨rfl, h1, fun h => by cases h⟩
theorem fit_chk {b p s k f se be o c n z : Int} (h : chk b p s k f se be o c n z = 0) : FitI k f se be o c n z := by
  obtain ⟨hs, hk, hse, hz, hm⟩ := chk_zero h
  have h4 := shp_s hs
  unfold mayS at hm
  unfold FitI
  split at hm
  · obtain ⟨h1, h2, _⟩ := may_parts hm
    have hf : f = 0 ∨ f = 1 := by simp [anyTo] at h1; omega
    unfold mayP at h2
    omega
  · split at hm
    · obtain ⟨h1, h2, _⟩ := may_parts hm
      have hf : f = 0 ∨ f = 1 ∨ f = 2 := by simp [anyTo] at h1; omega
      unfold mayP at h2
      omega
    · split at hm
      · obtain ⟨h1, h2, _⟩ := may_parts hm
        have hf : f = 0 ∨ f = 4 := by simp [anyTo] at h1; omega
        unfold mayP at h2
        omega
      · obtain ⟨h1, h2, _⟩ := may_parts hm
        have hf : f = 0 := by simp [anyTo] at h1; omega
        unfold mayP at h2
        omega
end Go.Proofs.YtekbjcagjkcaiaaDoor
