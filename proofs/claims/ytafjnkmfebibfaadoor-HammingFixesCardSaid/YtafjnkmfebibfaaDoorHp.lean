/- Plain words on Fix: what one bit turns in a sum, what two do. No program, no memory. -/
import Derived.Test.YtafjnkmfebibfaaDoorHm
namespace Go.Proofs.YtafjnkmfebibfaaDoor
set_option linter.unusedSimpArgs false
set_option linter.unusedVariables false
/-- What the bit n of a sector turns in its sum. -/
def E (n : Nat) : Nat := eTo n 0 11
/-- Not put right: more than one bit, and no place. -/
def badB (off : Nat) : Bool := off != 0 && (off &&& (off - 1)) != 0 && !((off &&& 12582912) == 0 && ((off &&& 1398101) ^^^ (off / 2 &&& 1398101)) == 1398101)
def placeB (off : Nat) : Bool := off != 0 && (off &&& (off - 1)) != 0 && (off &&& 12582912) == 0 && ((off &&& 1398101) ^^^ (off / 2 &&& 1398101)) == 1398101 && Nat.blt off 4194304
theorem E_tab : ∀ n : Fin 2048, placeB (E n.val) = true := by decide +kernel
theorem E_bits : ∀ n : Fin 2048, ∀ i : Fin 11, E n.val / 2 ^ (2 * i.val + 1) % 2 = n.val / 2 ^ i.val % 2 := by decide +kernel
theorem one_tab : ∀ k : Fin 24, (2 ^ k.val != 0 && (2 ^ k.val &&& (2 ^ k.val - 1)) == 0 && Nat.blt (2 ^ k.val) 16777216) = true := by decide +kernel
theorem two_tab : ∀ k j : Fin 24, k.val ≠ j.val → badB (2 ^ k.val ^^^ 2 ^ j.val) = true := by decide +kernel
theorem mix_tab : ∀ n : Fin 2048, ∀ k : Fin 24, badB (E n.val ^^^ 2 ^ k.val) = true := by decide +kernel
theorem diff_tab : ∀ d : Fin 2048, d.val ≠ 0 → badB (2 * spr d.val ^^^ spr d.val) = true := by decide +kernel
theorem E_spr (n : Nat) (h : n < 2048) : E n = 2 * spr n ^^^ spr (n ^^^ 2047) := e_tab ⟨n, h⟩
theorem E_two (i j : Nat) (hi : i < 2048) (hj : j < 2048) (hne : i ≠ j) : badB (E i ^^^ E j) = true := by
  have h1 : i ^^^ j < 2048 := Nat.xor_lt_two_pow (n := 11) hi hj
  have h0 : i ^^^ j ≠ 0 := fun h => hne (by
    have h2 : i ^^^ j ^^^ j = 0 ^^^ j := by rw [h]
    rw [Nat.xor_assoc, Nat.xor_self, Nat.xor_zero, Nat.zero_xor] at h2
    exact h2)
  have h2 : E i ^^^ E j = 2 * spr (i ^^^ j) ^^^ spr (i ^^^ j) := by
    rw [E_spr i hi, E_spr j hj, two_xor_spr]
    have e1 : spr (i ^^^ j) = spr (i ^^^ 2047) ^^^ spr (j ^^^ 2047) := by
      rw [← spr_xor]
      congr 1
      rw [Nat.xor_assoc, Nat.xor_comm 2047, Nat.xor_assoc j, Nat.xor_self, Nat.xor_zero]
    conv => rhs; rw [e1]
    generalize 2 * spr i = a
    generalize 2 * spr j = b
    generalize spr (i ^^^ 2047) = c
    generalize spr (j ^^^ 2047) = d
    rw [Nat.xor_assoc, ← Nat.xor_assoc c, Nat.xor_comm c b, Nat.xor_assoc b, ← Nat.xor_assoc a]
  rw [h2]
  exact diff_tab ⟨i ^^^ j, h1⟩ h0
where two_xor_spr : 2 * spr (i ^^^ j) = 2 * spr i ^^^ 2 * spr j := by rw [spr_xor, two_xor]
/-- A bit turned round, seen bit by bit. -/
theorem bitAt_flip (l : List UInt8) (n m : Nat) (h : n / 8 < l.length) : bitAt (flipB l n) m = if m = n then 1 - bitAt l m else bitAt l m := by
  unfold bitAt flipB
  rw [bt_set l (n / 8) (m / 8) _ h]
  have hk : (2 : Nat) ^ (n % 8) < 256 := bit_lt _ (by omega)
  have hx : (flipBit (bt l (n / 8)) (n % 8)).toNat = (bt l (n / 8)).toNat ^^^ 2 ^ (n % 8) := by
    unfold flipBit
    rw [UInt8.toNat_xor, UInt8.toNat_ofNat_of_lt' (by show _ < 256; exact hk)]
  by_cases h1 : m / 8 = n / 8
  · rw [if_pos h1, hx, h1]
    have e1 : ∀ x : Nat, (x ^^^ 2 ^ (n % 8)) / 2 ^ (m % 8) % 2 = if m % 8 = n % 8 then 1 - x / 2 ^ (m % 8) % 2 else x / 2 ^ (m % 8) % 2 := by
      intro x
      have hb : ∀ y k : Nat, y / 2 ^ k % 2 = (y.testBit k).toNat := fun y k => (Nat.toNat_testBit y k).symm
      rw [hb, hb, Nat.testBit_xor, Nat.testBit_two_pow]
      by_cases h2 : m % 8 = n % 8
      · rw [if_pos h2, decide_eq_true h2.symm]
        cases x.testBit (m % 8) <;> rfl
      · rw [if_neg h2, decide_eq_false (fun h => h2 h.symm)]
        cases x.testBit (m % 8) <;> rfl
    rw [e1]
    by_cases h2 : m = n
    · rw [if_pos h2, if_pos (by omega)]
    · rw [if_neg h2, if_neg (by omega)]
  · rw [if_neg h1, if_neg (by rintro rfl; exact h1 rfl)]
theorem refN_flip (l : List UInt8) (n : Nat) (h : n / 8 < l.length) : ∀ N, refN (flipB l n) N = refN l N ^^^ (if n < N then E n else 0)
  | 0 => by simp [refN]
  | N + 1 => by
    have ih := refN_flip l n h N
    have hb := bitAt_lt l N
    simp only [refN]
    rw [bitAt_flip l n N h]
    by_cases h1 : N = n
    · subst h1
      rw [if_neg (by omega), Nat.xor_zero] at ih
      rw [if_pos rfl, if_pos (Nat.lt_succ_self _)]
      by_cases h2 : bitAt l N = 1
      · rw [if_neg (by omega), if_pos h2, eTo_xor, ih, show eTo N 0 11 = E N from rfl, Nat.xor_assoc, Nat.xor_self, Nat.xor_zero]
      · rw [if_pos (by omega), if_neg h2, eTo_xor, ih]; rfl
    · rw [if_neg h1]
      have h3 : (if n < N + 1 then E n else 0) = (if n < N then E n else 0) := by
        by_cases h4 : n < N
        · rw [if_pos h4, if_pos (by omega)]
        · rw [if_neg h4, if_neg (by omega)]
      rw [h3]
      by_cases h2 : bitAt l N = 1
      · rw [if_pos h2, if_pos h2, eTo_xor, ih, eTo_xor N (refN l N)]
        generalize (if n < N then E n else 0) = z
        rw [Nat.xor_assoc, Nat.xor_comm z, Nat.xor_assoc]
      · rw [if_neg h2, if_neg h2, ih]
theorem sumN_ref (l : List UInt8) : sumN l = refN l 2048 := (ref_pack l 2048 (Nat.le_refl _)).symm
theorem sumN_flip (l : List UInt8) (n : Nat) (hl : l.length = 256) (h : n < 2048) : sumN (flipB l n) = sumN l ^^^ E n := by
  rw [sumN_ref, sumN_ref, refN_flip l n (by omega), if_pos h]
/-- A power of two is what it looks like. -/
theorem pow_of_and : ∀ x : Nat, x ≠ 0 → x &&& (x - 1) = 0 → ∃ k, x = 2 ^ k := by
  intro x
  induction x using Nat.strongRecOn with
  | ind x ih =>
    intro h0 h
    rcases Nat.mod_two_eq_zero_or_one x with hm | hm
    · obtain ⟨y, rfl⟩ : ∃ y, x = 2 * y := ⟨x / 2, by omega⟩
      have h2 : y &&& (y - 1) = 0 := by
        apply Nat.eq_of_testBit_eq
        intro i
        have h3 : (2 * y &&& (2 * y - 1)).testBit (i + 1) = false := by rw [h]; simp
        rw [Nat.testBit_and, Nat.testBit_succ, Nat.testBit_succ, show 2 * y / 2 = y from by omega, show (2 * y - 1) / 2 = y - 1 from by omega] at h3
        rw [Nat.testBit_and, h3]; simp
      obtain ⟨k, hk⟩ := ih y (by omega) (by omega) h2
      exact ⟨k + 1, by rw [Nat.pow_succ]; omega⟩
    · by_cases h1 : x = 1
      · exact ⟨0, h1⟩
      · exfalso
        have h2 : x &&& (x - 1) = x - 1 := by
          apply Nat.eq_of_testBit_eq
          intro i
          rw [Nat.testBit_and]
          cases i with
          | zero => simp [Nat.testBit_zero]; omega
          | succ i => rw [Nat.testBit_succ, Nat.testBit_succ, show (x - 1) / 2 = x / 2 from by omega, Bool.and_self]
        omega
end Go.Proofs.YtafjnkmfebibfaaDoor
