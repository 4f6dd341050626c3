/- Plain words on what Fix tells: it always tells something; with OK a sector with its own sum, one bit off at most. -/
import Derived.Test.YtafjnkmfebibfaaDoorFo
namespace Go.Proofs.YtafjnkmfebibfaaDoor
set_option linter.unusedSimpArgs false
set_option linter.unusedVariables false
/-- The number whose digits a pair of sums tells. -/
def decTo (off : Nat) : Nat → Nat
  | 0 => 0
  | k + 1 => decTo off k ||| (off / 2 ^ (2 * k + 1) % 2) * 2 ^ k
theorem decTo_tb (off i : Nat) : ∀ k, (decTo off k).testBit i = (decide (i < k) && off.testBit (2 * i + 1))
  | 0 => by simp [decTo]
  | k + 1 => by
    rw [decTo, Nat.testBit_or, decTo_tb off i k, tb_mul, bit_tb]
    by_cases h1 : i = k
    · subst h1
      simp
    · have h2 : (decide (k ≤ i) && (decide (i - k = 0) && off.testBit (2 * k + 1))) = false := by
        by_cases h3 : k ≤ i
        · rw [show decide (i - k = 0) = false from decide_eq_false (by omega)]; simp
        · simp [h3]
      rw [h2, Bool.or_false]
      congr 1
      rw [decide_eq_decide]
      omega
theorem ev_tab : ∀ i : Fin 11, (1398101 : Nat).testBit (2 * i.val) = true := by decide
theorem sp_lt (x : Nat) (h : x < 16777216) (hs : x &&& 12582912 = 0) : x < 4194304 := by
  have hb : ∀ i, 22 ≤ i → x.testBit i = false := by
    intro i hi
    by_cases h1 : i < 24
    · have h2 : (x &&& 12582912).testBit i = false := by rw [hs]; simp
      rw [Nat.testBit_and] at h2
      have h3 : (12582912 : Nat).testBit i = true := by
        have : i = 22 ∨ i = 23 := by omega
        rcases this with rfl | rfl <;> decide
      rw [h3, Bool.and_true] at h2
      exact h2
    · exact Nat.testBit_lt_two_pow (Nat.lt_of_lt_of_le h (by rw [show (16777216 : Nat) = 2 ^ 24 by decide]; exact Nat.pow_le_pow_right (by decide) (by omega)))
  rw [show (4194304 : Nat) = 2 ^ 22 by decide]
  exact Nat.lt_pow_two_of_testBit x hb
theorem place_dec (off : Nat) (h : off < 16777216) (hs : off &&& 12582912 = 0) (he : (off &&& 1398101) ^^^ (off / 2 &&& 1398101) = 1398101) : decTo off 11 < 2048 ∧ off = E (decTo off 11) := by
  have hl := sp_lt off h hs
  have hm : decTo off 11 < 2048 := by
    rw [show (2048 : Nat) = 2 ^ 11 by decide]
    refine Nat.lt_pow_two_of_testBit _ fun i hi => ?_
    rw [decTo_tb, decide_eq_false (by omega), Bool.false_and]
  refine ⟨hm, ?_⟩
  rw [E_spr _ hm]
  apply Nat.eq_of_testBit_eq
  intro j
  rw [Nat.testBit_xor]
  have h1 : (2 * spr (decTo off 11)).testBit j = (decide (j % 2 = 1 ∧ j < 22) && (decTo off 11).testBit ((j - 1) / 2)) := by
    rw [Nat.mul_comm, show spr (decTo off 11) * 2 = spr (decTo off 11) * 2 ^ 1 from rfl, tb_mul]
    unfold spr
    rw [sprTo_tb, ← Bool.and_assoc]
    congr 1
    rw [← Bool.decide_and, decide_eq_decide]
    omega
  have h2 : (spr (decTo off 11 ^^^ 2047)).testBit j = (decide (j % 2 = 0 ∧ j < 22) && (decTo off 11 ^^^ 2047).testBit (j / 2)) := by
    unfold spr
    rw [sprTo_tb]
    congr 1
    rw [decide_eq_decide]
    omega
  rw [h1, h2]
  by_cases hj : j < 22
  · rcases Nat.mod_two_eq_zero_or_one j with hp | hp
    · rw [decide_eq_false (by omega), decide_eq_true (by omega), Bool.false_and, Bool.true_and, Bool.false_xor, Nat.testBit_xor, decTo_tb, decide_eq_true (by omega), Bool.true_and]
      have h3 : ((off &&& 1398101) ^^^ (off / 2 &&& 1398101)).testBit j = true := by
        rw [he]
        have := ev_tab ⟨j / 2, by omega⟩
        rw [show 2 * (j / 2) = j by omega] at this
        exact this
      have h4 : (1398101 : Nat).testBit j = true := by
        have := ev_tab ⟨j / 2, by omega⟩
        rw [show 2 * (j / 2) = j by omega] at this
        exact this
      rw [Nat.testBit_xor, Nat.testBit_and, Nat.testBit_and, h4, Bool.and_true, Bool.and_true, Nat.testBit_div_two] at h3
      have h5 : (2047 : Nat).testBit (j / 2) = true := by
        have : ∀ i : Fin 11, (2047 : Nat).testBit i.val = true := by decide
        exact this ⟨j / 2, by omega⟩
      rw [h5, show 2 * (j / 2) + 1 = j + 1 by omega]
      revert h3
      cases off.testBit j <;> cases off.testBit (j + 1) <;> simp
    · rw [decide_eq_true (by omega), decide_eq_false (by omega), Bool.false_and, Bool.true_and, Bool.xor_false, decTo_tb, decide_eq_true (by omega), Bool.true_and, show 2 * ((j - 1) / 2) + 1 = j by omega]
  · rw [decide_eq_false (by omega), decide_eq_false (by omega), Bool.false_and, Bool.false_and]
    exact Nat.testBit_lt_two_pow (Nat.lt_of_lt_of_le hl (by rw [show (4194304 : Nat) = 2 ^ 22 by decide]; exact Nat.pow_le_pow_right (by decide) (by omega)))
theorem fix_total (l : List UInt8) (g : Nat) (hg : g < 16777216) : ∃ l' g' k e, FixIs l g l' g' k e := by
  have hol : g ^^^ sumN l < 16777216 := Nat.xor_lt_two_pow (n := 24) hg (sumN_lt l)
  by_cases h0 : g ^^^ sumN l = 0
  · exact ⟨_, _, _, _, .inl ⟨h0, rfl, rfl, rfl, rfl⟩⟩
  · by_cases h1 : (g ^^^ sumN l) &&& ((g ^^^ sumN l) - 1) = 0
    · obtain ⟨k, hk⟩ := pow_of_and _ h0 h1
      have hk24 : k < 24 := by
        rcases Nat.lt_or_ge k 24 with h | h
        · exact h
        · have := Nat.pow_le_pow_right (n := 2) (by decide) h
          rw [← hk] at this
          exact absurd hol (by rw [show (2 : Nat) ^ 24 = 16777216 by decide] at this; omega)
      exact ⟨_, _, _, _, .inr (.inl ⟨k, hk24, hk, rfl, rfl, rfl, rfl⟩)⟩
    · by_cases h2 : (g ^^^ sumN l) &&& 12582912 = 0 ∧ ((g ^^^ sumN l) &&& 1398101) ^^^ ((g ^^^ sumN l) / 2 &&& 1398101) = 1398101
      · obtain ⟨hm, he⟩ := place_dec _ hol h2.1 h2.2
        exact ⟨_, _, _, _, .inr (.inr (.inl ⟨_, hm, he, rfl, rfl, rfl, rfl⟩))⟩
      · refine ⟨_, _, _, _, .inr (.inr (.inr ⟨?_, rfl, rfl, rfl, rfl⟩))⟩
        unfold badB
        simp only [Bool.and_eq_true, bne_iff_ne, ne_eq, Bool.not_eq_true', Bool.and_eq_false_iff, beq_eq_false_iff_ne]
        refine ⟨⟨h0, h1⟩, ?_⟩
        rcases Decidable.not_and_iff_or_not.mp h2 with h | h
        · exact .inl h
        · exact .inr h
theorem xor_self_left (a b : Nat) : a ^^^ (a ^^^ b) = b := by rw [← Nat.xor_assoc, Nat.xor_self, Nat.zero_xor]
theorem xor_eq {a b c : Nat} (h : a ^^^ b = c) : b = a ^^^ c := by rw [← h, xor_self_left]
/-- What Fix tells with OK: its own sum, and where the one bit is that it has turned (M; none: 9999). -/
theorem fix_near (l : List UInt8) (g : Nat) (l' : List UInt8) (g' : Nat) (k e : Int) (hl : l.length = 256) (h : FixIs l g l' g' k e) :
    (e = 21 ∧ g ≠ sumN l ∧ l' = [] ∧ k = 0 ∧ g' = 0) ∨
    (e = 0 ∧ sumN l' = g' ∧ l'.length = 256 ∧ ∃ M : Nat, (M < 2072 ∧ k = M ∨ M = 9999 ∧ k = -1) ∧ (∀ n, n < 2048 → (bitAt l' n = bitAt l n ↔ n ≠ M)) ∧ (∀ n, n < 24 → (g' / 2 ^ n % 2 = g / 2 ^ n % 2 ↔ 2048 + n ≠ M))) := by
  have hbit : ∀ y i : Nat, y / 2 ^ i % 2 = (y.testBit i).toNat := fun y i => (Nat.toNat_testBit y i).symm
  rcases h with ⟨h0, rfl, rfl, rfl, rfl⟩ | ⟨j, hj, h0, rfl, rfl, rfl, rfl⟩ | ⟨m, hm, h0, rfl, rfl, rfl, rfl⟩ | ⟨h0, rfl, rfl, rfl, rfl⟩
  · have := xor_eq h0
    rw [Nat.xor_zero] at this
    exact .inr ⟨rfl, this, hl, 9999, .inr ⟨rfl, rfl⟩, fun n hn => ⟨fun _ => by omega, fun _ => rfl⟩, fun n hn => ⟨fun _ => by omega, fun _ => rfl⟩⟩
  · refine .inr ⟨rfl, xor_eq h0, hl, 2048 + j, .inl ⟨by omega, by omega⟩, fun n hn => ⟨fun _ => by omega, fun _ => rfl⟩, fun n hn => ?_⟩
    rw [hbit, hbit, Nat.testBit_xor, Nat.testBit_two_pow]
    by_cases h1 : j = n
    · subst h1
      rw [decide_eq_true rfl]
      constructor
      · intro h; exfalso; revert h; cases g.testBit j <;> decide
      · intro h; omega
    · rw [decide_eq_false h1, Bool.xor_false]
      exact ⟨fun _ => by omega, fun _ => rfl⟩
  · refine .inr ⟨rfl, ?_, by rw [flipB_len]; exact hl, m, .inl ⟨by omega, rfl⟩, fun n hn => ?_, fun n hn => ⟨fun _ => by omega, fun _ => rfl⟩⟩
    · rw [sumN_flip l m hl hm, ← h0, Nat.xor_comm g', xor_self_left]
    · rw [bitAt_flip l m n (by omega)]
      have hb := bitAt_lt l n
      by_cases h1 : n = m
      · rw [if_pos h1]
        constructor
        · intro h; omega
        · intro h; exact absurd h1 h
      · rw [if_neg h1]
        exact ⟨fun _ => h1, fun _ => rfl⟩
  · refine .inl ⟨rfl, fun h => ?_, rfl, rfl, rfl⟩
    rw [h, Nat.xor_self] at h0
    exact absurd h0 (by decide)
/-- The bits of three bytes are those of their number. -/
theorem num3_bit (l : List UInt8) (n : Nat) (hn : n < 24) : bitAt l n = num3 l / 2 ^ n % 2 := by
  have h0 := (bt l 0).toNat_lt
  have h1 := (bt l 1).toNat_lt
  have h2 := (bt l 2).toNat_lt
  have e : num3 l = 2 ^ 8 * (2 ^ 8 * (bt l 2).toNat + (bt l 1).toNat) + (bt l 0).toNat := by unfold num3; rw [show (2 : Nat) ^ 8 = 256 by decide]; omega
  have hbit : ∀ y i : Nat, y / 2 ^ i % 2 = (y.testBit i).toNat := fun y i => (Nat.toNat_testBit y i).symm
  unfold bitAt
  rw [hbit, hbit, e, Nat.testBit_two_pow_mul_add _ h0, Nat.testBit_two_pow_mul_add _ h1]
  congr 1
  by_cases ha : n < 8
  · rw [if_pos ha, show n / 8 = 0 by omega, show n % 8 = n by omega]
  · rw [if_neg ha]
    by_cases hb : n - 8 < 8
    · rw [if_pos hb, show n / 8 = 1 by omega, show n % 8 = n - 8 by omega]
    · rw [if_neg hb, show n / 8 = 2 by omega, show n % 8 = n - 8 - 8 by omega]
end Go.Proofs.YtafjnkmfebibfaaDoor
