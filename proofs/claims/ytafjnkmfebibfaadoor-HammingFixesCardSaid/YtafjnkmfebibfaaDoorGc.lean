/- What the document's one and place tell of the three kinds of differences. No program. -/
import Derived.Test.YtafjnkmfebibfaaDoorGb
import Derived.Test.YtafjnkmfebibfaaDoorFn
namespace Go.Proofs.YtafjnkmfebibfaaDoor
set_option linter.unusedVariables false
theorem E_even : ∀ n : Fin 2048, ∀ i : Fin 11, E n.val / 2 ^ (2 * i.val) % 2 = 1 - n.val / 2 ^ i.val % 2 := by decide +kernel
theorem E_plTo : ∀ n : Fin 2048, plTo (E n.val) 11 = n.val := by decide +kernel
theorem ev_bit : ∀ j : Fin 24, (1398101 : Nat).testBit j.val = decide (j.val % 2 = 0 ∧ j.val < 22) := by decide
theorem pow_bad (off i : Nat) (ho : off < 16777216) (h : (off &&& (off - 1)) ≠ 0) : off ≠ 2 ^ i := by
  intro e
  rcases Nat.lt_or_ge i 24 with hi | hi
  · have := one_tab ⟨i, hi⟩
    simp only [Bool.and_eq_true, beq_iff_eq] at this
    exact h (by rw [e]; exact this.1.2)
  · have : 2 ^ 24 ≤ 2 ^ i := Nat.pow_le_pow_right (by decide) hi
    omega
theorem one_pow (j : Nat) (hj : j < 24) (r : Int) (h : OneIs (2 ^ j) r) : r = j := by
  rcases h with ⟨_, h | h⟩ | ⟨i, _, h1, h2⟩
  · exact absurd rfl (h j)
  · have := Nat.two_pow_pos j; omega
  · have : j = i := Nat.pow_right_inj (by decide) |>.1 h2
    rw [h1, this]
theorem E_parts (m : Nat) (hm : m < 2048) : E m ≠ 0 ∧ (E m &&& (E m - 1)) ≠ 0 ∧ E m < 4194304 := by
  have h := E_tab ⟨m, hm⟩
  unfold placeB at h
  simp only [Bool.and_eq_true, bne_iff_ne, ne_eq] at h
  obtain ⟨⟨⟨⟨h1, h2⟩, _⟩, _⟩, h5⟩ := h
  exact ⟨h1, h2, by simpa [Nat.blt_eq] using h5⟩
theorem one_E (m : Nat) (hm : m < 2048) (r : Int) (h : OneIs (E m) r) : r = -1 := by
  obtain ⟨h0, h1, h2⟩ := E_parts m hm
  rcases h with ⟨h, _⟩ | ⟨i, _, _, h4⟩
  · exact h
  · exact absurd h4 (pow_bad _ _ (by omega) h1)
theorem place_E (m : Nat) (hm : m < 2048) (r : Int) (h : PlaceIs (E m) r) : r = m := by
  obtain ⟨h0, h1, h2⟩ := E_parts m hm
  rcases h with ⟨_, h | ⟨i, hi, h⟩⟩ | ⟨h, _⟩
  · omega
  · have a := E_even ⟨m, hm⟩ ⟨i, hi⟩
    have b := E_bits ⟨m, hm⟩ ⟨i, hi⟩
    simp only at a b
    omega
  · rw [h, E_plTo ⟨m, hm⟩]
theorem one_bad (off : Nat) (ho : off < 16777216) (hb : badB off = true) (r : Int) (h : OneIs off r) : r = -1 := by
  unfold badB at hb
  simp only [Bool.and_eq_true, bne_iff_ne, ne_eq] at hb
  rcases h with ⟨h, _⟩ | ⟨i, _, _, h4⟩
  · exact h
  · exact absurd h4 (pow_bad _ _ ho hb.1.2)
theorem evens_of (d : Nat) (hd : d < 4194304) (h : ∀ i, i < 11 → d / 2 ^ (2 * i) % 2 ≠ d / 2 ^ (2 * i + 1) % 2) : (d &&& 1398101) ^^^ (d / 2 &&& 1398101) = 1398101 := by
  apply Nat.eq_of_testBit_eq
  intro j
  have e2 : (d / 2).testBit j = d.testBit (j + 1) := by rw [Nat.testBit_succ]
  rw [Nat.testBit_xor, Nat.testBit_and, Nat.testBit_and, e2]
  rcases Nat.lt_or_ge j 24 with hj | hj
  · rw [ev_bit ⟨j, hj⟩]
    by_cases hc : j % 2 = 0 ∧ j < 22
    · have h1 := h (j / 2) (by omega)
      rw [show 2 * (j / 2) = j by omega] at h1
      simp only [hc, and_self, decide_true, Bool.and_true]
      rw [Nat.testBit_eq_decide_div_mod_eq, Nat.testBit_eq_decide_div_mod_eq]
      have a1 : d / 2 ^ j % 2 = 0 ∨ d / 2 ^ j % 2 = 1 := by omega
      have a2 : d / 2 ^ (j + 1) % 2 = 0 ∨ d / 2 ^ (j + 1) % 2 = 1 := by omega
      rcases a1 with a1 | a1 <;> rcases a2 with a2 | a2 <;> rw [a1, a2] at h1 ⊢ <;> simp at h1 ⊢
    · rw [decide_eq_false hc]; simp
  · rw [Nat.testBit_lt_two_pow (x := 1398101) (Nat.lt_of_lt_of_le (by decide : 1398101 < 2 ^ 24) (Nat.pow_le_pow_right (by decide) hj))]; simp
theorem sp_of (d : Nat) (hd : d < 4194304) : d &&& 12582912 = 0 := by
  apply Nat.eq_of_testBit_eq
  intro j
  rw [Nat.testBit_and, Nat.zero_testBit]
  rcases Nat.lt_or_ge j 22 with hj | hj
  · have : ∀ j : Fin 22, (12582912 : Nat).testBit j.val = false := by decide
    rw [this ⟨j, hj⟩, Bool.and_false]
  · rw [Nat.testBit_lt_two_pow (x := d) (Nat.lt_of_lt_of_le hd (show 4194304 ≤ 2 ^ j from Nat.pow_le_pow_right (n := 2) (i := 22) (by decide) hj)), Bool.false_and]
theorem place_bad (off : Nat) (ho : off < 16777216) (hb : badB off = true) (r : Int) (h : PlaceIs off r) : r = -1 := by
  rcases h with ⟨h, _⟩ | ⟨_, h2, h3⟩
  · exact h
  · unfold badB at hb
    rw [evens_of off h2 h3, sp_of off h2] at hb
    simp at hb
end Go.Proofs.YtafjnkmfebibfaaDoor
