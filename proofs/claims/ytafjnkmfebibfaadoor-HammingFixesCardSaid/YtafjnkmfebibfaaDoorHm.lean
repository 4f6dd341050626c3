/- Plain words on sums of sectors: digits' parities by the numbers of the bits, and bit by bit, are the same. No program, no memory. -/
import Derived.Test.YtafjnkmfebibfaaDoorSpec
namespace Go.Proofs.YtafjnkmfebibfaaDoor
set_option linter.unusedSimpArgs false
set_option linter.unusedVariables false

theorem xor_swap (a b c : Nat) : a ^^^ b ^^^ c = a ^^^ c ^^^ b := by rw [Nat.xor_assoc, Nat.xor_comm b, ← Nat.xor_assoc]
theorem tb_mul (x i j : Nat) : (x * 2 ^ i).testBit j = (decide (i ≤ j) && x.testBit (j - i)) := by rw [Nat.mul_comm, Nat.testBit_two_pow_mul]
/-- The digits of a number, a zero between each two. -/
def sprTo (n : Nat) : Nat → Nat
  | 0 => 0
  | k + 1 => sprTo n k ||| (n / 2 ^ k % 2) * 2 ^ (2 * k)
def spr (n : Nat) : Nat := sprTo n 11
theorem sprTo_lt (n : Nat) : ∀ k, sprTo n k < 2 ^ (2 * k)
  | 0 => by simp [sprTo]
  | k + 1 => by
    have h := sprTo_lt n k
    have hp : 2 ^ (2 * (k + 1)) = 4 * 2 ^ (2 * k) := by rw [show 2 * (k + 1) = 2 * k + 2 from by omega, Nat.pow_add]; omega
    refine Nat.or_lt_two_pow (by omega) ?_
    have : n / 2 ^ k % 2 ≤ 1 := by omega
    have : n / 2 ^ k % 2 * 2 ^ (2 * k) ≤ 1 * 2 ^ (2 * k) := Nat.mul_le_mul_right _ this
    omega
theorem spr_lt (n : Nat) : spr n < 4194304 := sprTo_lt n 11
theorem bit_tb (n k m : Nat) : (n / 2 ^ k % 2).testBit m = (decide (m = 0) && n.testBit k) := by
  rcases Nat.mod_two_eq_zero_or_one (n / 2 ^ k) with h | h
  · have : n.testBit k = false := by rw [Nat.testBit_eq_decide_div_mod_eq, h]; rfl
    rw [h, this]; simp
  · have : n.testBit k = true := by rw [Nat.testBit_eq_decide_div_mod_eq, h]; rfl
    rw [h, this]
    cases m with
    | zero => rfl
    | succ m => simp [Nat.testBit_succ]
theorem sprTo_tb (n j : Nat) : ∀ k, (sprTo n k).testBit j = (decide (j % 2 = 0 ∧ j / 2 < k) && n.testBit (j / 2))
  | 0 => by simp [sprTo]
  | k + 1 => by
    rw [sprTo, Nat.testBit_or, sprTo_tb n j k, tb_mul, bit_tb]
    by_cases h1 : j = 2 * k
    · subst h1
      simp
    · have h2 : (decide (2 * k ≤ j) && (decide (j - 2 * k = 0) && n.testBit k)) = false := by
        by_cases h3 : 2 * k ≤ j
        · rw [show decide (j - 2 * k = 0) = false from decide_eq_false (by omega)]; simp
        · simp [h3]
      rw [h2, Bool.or_false]
      congr 1
      rw [decide_eq_decide]
      omega
theorem spr_xor (a b : Nat) : spr (a ^^^ b) = spr a ^^^ spr b := by
  apply Nat.eq_of_testBit_eq
  intro j
  rw [Nat.testBit_xor]
  unfold spr
  rw [sprTo_tb, sprTo_tb, sprTo_tb, Nat.testBit_xor]
  cases decide (j % 2 = 0 ∧ j / 2 < 11) <;> simp
theorem two_xor (a b : Nat) : 2 * (a ^^^ b) = 2 * a ^^^ 2 * b := by
  apply Nat.eq_of_testBit_eq
  intro j
  rw [Nat.testBit_xor]
  have h : ∀ x : Nat, (2 * x).testBit j = (decide (1 ≤ j) && x.testBit (j - 1)) := fun x => by
    rw [Nat.mul_comm, show x * 2 = x * 2 ^ 1 from rfl, tb_mul]
  rw [h, h, h, Nat.testBit_xor]
  cases decide (1 ≤ j) <;> simp
/-- The sum as a number, by the numbers' exclusive or and the parity of how many. -/
def packN (x a : Nat) : Nat := 12582912 ^^^ 2 * spr x ^^^ spr (x ^^^ a)
theorem pack_or (x a : Nat) : (2 * spr x ||| spr (x ^^^ a)) ||| 12582912 = packN x a := by
  apply Nat.eq_of_testBit_eq
  intro j
  unfold packN
  rw [Nat.testBit_or, Nat.testBit_or, Nat.testBit_xor, Nat.testBit_xor]
  have h1 : (2 * spr x).testBit j = (decide (j % 2 = 1 ∧ j < 22) && x.testBit ((j - 1) / 2)) := by
    rw [Nat.mul_comm, show spr x * 2 = spr x * 2 ^ 1 from rfl, tb_mul]
    unfold spr
    rw [sprTo_tb, ← Bool.and_assoc]
    congr 1
    rw [← Bool.decide_and, decide_eq_decide]
    omega
  have h2 : (spr (x ^^^ a)).testBit j = (decide (j % 2 = 0 ∧ j < 22) && (x ^^^ a).testBit (j / 2)) := by
    unfold spr
    rw [sprTo_tb]
    congr 1
    rw [decide_eq_decide]
    omega
  have h3 : (12582912 : Nat).testBit j = decide (j = 22 ∨ j = 23) := by
    rw [show (12582912 : Nat) = 3 * 2 ^ 22 from rfl, tb_mul]
    by_cases h : j = 22
    · subst h; rfl
    · by_cases h' : j = 23
      · subst h'; rfl
      · rw [show decide (j = 22 ∨ j = 23) = false from decide_eq_false (by omega)]
        by_cases h4 : 22 ≤ j
        · have : (3 : Nat).testBit (j - 22) = false := Nat.testBit_lt_two_pow (Nat.lt_of_lt_of_le (show 3 < 2 ^ 2 by decide) (Nat.pow_le_pow_right (by decide) (by omega)))
          rw [this]; simp
        · simp [h4]
  rw [h1, h2, h3]
  by_cases h4 : j < 22
  · rw [show decide (j = 22 ∨ j = 23) = false from decide_eq_false (by omega)]
    rcases Nat.mod_two_eq_zero_or_one j with h | h
    · rw [show decide (j % 2 = 1 ∧ j < 22) = false from decide_eq_false (by omega)]; simp
    · rw [show decide (j % 2 = 0 ∧ j < 22) = false from decide_eq_false (by omega)]; simp
  · rw [show decide (j % 2 = 1 ∧ j < 22) = false from decide_eq_false (by omega), show decide (j % 2 = 0 ∧ j < 22) = false from decide_eq_false (by omega)]; simp
/-- What one bit of the number n turns, digit by digit. -/
def eTo (n s : Nat) : Nat → Nat
  | 0 => s
  | k + 1 => eTo n s k ^^^ 2 ^ (2 * k + n / 2 ^ k % 2)
theorem eTo_xor (n s : Nat) : ∀ k, eTo n s k = s ^^^ eTo n 0 k
  | 0 => by simp [eTo]
  | k + 1 => by simp only [eTo]; rw [eTo_xor n s k, Nat.xor_assoc]
theorem e_tab : ∀ n : Fin 2048, eTo n.val 0 11 = 2 * spr n.val ^^^ spr (n.val ^^^ 2047) := by decide +kernel
/-- The numbers of the first N bits that are 1, exclusive or; whether they are an odd number. -/
def numX (l : List UInt8) : Nat → Nat
  | 0 => 0
  | N + 1 => if bitAt l N = 1 then numX l N ^^^ N else numX l N
def numA (l : List UInt8) : Nat → Nat
  | 0 => 0
  | N + 1 => if bitAt l N = 1 then numA l N ^^^ 2047 else numA l N
/-- The document's sum behind N bits. -/
def refN (l : List UInt8) : Nat → Nat
  | 0 => 12582912
  | N + 1 => if bitAt l N = 1 then eTo N (refN l N) 11 else refN l N
theorem ref_pack (l : List UInt8) : ∀ N, N ≤ 2048 → refN l N = packN (numX l N) (numA l N)
  | 0, _ => by show 12582912 = packN 0 0; decide
  | N + 1, h => by
    simp only [refN, numX, numA]
    by_cases hb : bitAt l N = 1
    · rw [if_pos hb, if_pos hb, if_pos hb, eTo_xor, e_tab ⟨N, by omega⟩, ref_pack l N (by omega)]
      unfold packN
      have e1 : numX l N ^^^ N ^^^ (numA l N ^^^ 2047) = (numX l N ^^^ numA l N) ^^^ (N ^^^ 2047) := by
        rw [Nat.xor_assoc, ← Nat.xor_assoc N, Nat.xor_comm N, Nat.xor_assoc (numA l N), ← Nat.xor_assoc (numX l N)]
      rw [e1, spr_xor (numX l N) N, two_xor, spr_xor (numX l N ^^^ numA l N)]
      generalize 2 * spr (numX l N) = x
      generalize 2 * spr N = y
      generalize spr (numX l N ^^^ numA l N) = u
      generalize spr (N ^^^ 2047) = v
      show 12582912 ^^^ x ^^^ u ^^^ (y ^^^ v) = 12582912 ^^^ (x ^^^ y) ^^^ (u ^^^ v)
      generalize (12582912 : Nat) = z
      rw [← Nat.xor_assoc, xor_swap (z ^^^ x) u y, ← Nat.xor_assoc z, Nat.xor_assoc (z ^^^ x ^^^ y)]
    · rw [if_neg hb, if_neg hb, if_neg hb, ref_pack l N (by omega)]
/-- Of a byte: the numbers of its first k bits that are 1, exclusive or; whether they are an odd number. -/
def pO (b : Nat) : Nat → Nat
  | 0 => 0
  | k + 1 => if b / 2 ^ k % 2 = 1 then pO b k ^^^ k else pO b k
def pP (b : Nat) : Nat → Bool
  | 0 => false
  | k + 1 => if b / 2 ^ k % 2 = 1 then !(pP b k) else pP b k
theorem eight_xor (j k : Nat) (h : k < 8) : 8 * j + k = 8 * j ^^^ k := by
  have h1 := Nat.two_pow_add_eq_or_of_lt (i := 3) (b := k) h j
  rw [show 2 ^ 3 * j = 8 * j from rfl] at h1
  rw [h1]
  apply Nat.eq_of_testBit_eq
  intro i
  rw [Nat.testBit_or, Nat.testBit_xor]
  rcases Nat.lt_or_ge i 3 with hi | hi
  · have : (8 * j).testBit i = false := by
      rw [show 8 * j = j * 2 ^ 3 from by omega, tb_mul]
      simp; omega
    rw [this]; simp
  · have : k.testBit i = false := Nat.testBit_lt_two_pow (Nat.lt_of_lt_of_le h (Nat.pow_le_pow_right (n := 2) (by decide) hi))
    rw [this]; simp
theorem byte_bits (l : List UInt8) (j : Nat) : ∀ k, k ≤ 8 → numX l (8 * j + k) = numX l (8 * j) ^^^ pO (bt l j).toNat k ^^^ (if pP (bt l j).toNat k = true then 8 * j else 0) ∧ numA l (8 * j + k) = numA l (8 * j) ^^^ (if pP (bt l j).toNat k = true then 2047 else 0)
  | 0, _ => by simp [pO, pP]
  | k + 1, h => by
    obtain ⟨h1, h2⟩ := byte_bits l j k (by omega)
    have hb : bitAt l (8 * j + k) = (bt l j).toNat / 2 ^ k % 2 := by
      unfold bitAt
      rw [show (8 * j + k) / 8 = j from by omega, show (8 * j + k) % 8 = k from by omega]
    rw [show 8 * j + (k + 1) = 8 * j + k + 1 from rfl]
    simp only [numX, numA, pO, pP, hb]
    by_cases hc : (bt l j).toNat / 2 ^ k % 2 = 1
    · simp only [if_pos hc]
      rw [h1, h2]
      cases hp : pP (bt l j).toNat k with
      | true =>
        simp only [Bool.not_true, if_true]
        rw [eight_xor j k (by omega)]
        constructor
        · generalize numX l (8 * j) = x
          generalize pO (bt l j).toNat k = y
          generalize 8 * j = z
          show x ^^^ y ^^^ z ^^^ (z ^^^ k) = x ^^^ (y ^^^ k) ^^^ 0
          rw [Nat.xor_zero, Nat.xor_assoc (x ^^^ y), ← Nat.xor_assoc z, Nat.xor_self, Nat.zero_xor, Nat.xor_assoc]
        · show numA l (8 * j) ^^^ 2047 ^^^ 2047 = numA l (8 * j) ^^^ 0
          rw [Nat.xor_assoc, Nat.xor_self]
      | false =>
        simp only [Bool.not_false, if_true]
        rw [eight_xor j k (by omega)]
        constructor
        · generalize numX l (8 * j) = x
          generalize pO (bt l j).toNat k = y
          generalize 8 * j = z
          show x ^^^ y ^^^ 0 ^^^ (z ^^^ k) = x ^^^ (y ^^^ k) ^^^ z
          rw [Nat.xor_zero, Nat.xor_comm z, ← Nat.xor_assoc, Nat.xor_assoc x]
        · show numA l (8 * j) ^^^ 0 ^^^ 2047 = numA l (8 * j) ^^^ 2047
          rw [Nat.xor_zero]
    · simp only [if_neg hc]
      exact ⟨h1, h2⟩
/-- What 'odd' tells of a byte. -/
def maskN (k : Nat) : Nat := if k = 0 then 170 else if k = 1 then 204 else if k = 2 then 240 else 255
def oddTo (b : Nat) : Nat → Nat
  | 0 => 0
  | k + 1 => oddTo b k ||| (popN (b &&& maskN k) % 2) * 2 ^ k
theorem odd_tab : ∀ b : Fin 256, oddTo b.val 4 % 8 = pO b.val 8 ∧ (oddTo b.val 4 / 8 % 2 = 1 ↔ pP b.val 8 = true) ∧ oddTo b.val 4 < 16 := by decide +kernel
def oddN (b : UInt8) : Nat := oddTo b.toNat 4
theorem odd_low (b : UInt8) : oddN b % 8 = pO b.toNat 8 := (odd_tab ⟨b.toNat, b.toNat_lt⟩).1
theorem odd_par (b : UInt8) : oddN b / 8 % 2 = 1 ↔ pP b.toNat 8 = true := (odd_tab ⟨b.toNat, b.toNat_lt⟩).2.1
theorem odd_lt (b : UInt8) : oddN b < 16 := (odd_tab ⟨b.toNat, b.toNat_lt⟩).2.2
/-- One byte of the program's sum. -/
theorem byte_step (l : List UInt8) (j : Nat) :
    numX l (8 * (j + 1)) = (if oddN (bt l j) / 8 % 2 = 1 then numX l (8 * j) ^^^ oddN (bt l j) % 8 ^^^ 8 * j else numX l (8 * j) ^^^ oddN (bt l j) % 8) ∧
    numA l (8 * (j + 1)) = (if oddN (bt l j) / 8 % 2 = 1 then numA l (8 * j) ^^^ 2047 else numA l (8 * j)) := by
  obtain ⟨h1, h2⟩ := byte_bits l j 8 (Nat.le_refl _)
  rw [show 8 * (j + 1) = 8 * j + 8 from rfl, h1, h2, odd_low]
  have h3 := odd_par (bt l j)
  by_cases hp : pP (bt l j).toNat 8 = true
  · rw [if_pos hp, if_pos hp, if_pos (h3.mpr hp), if_pos (h3.mpr hp)]; exact ⟨rfl, rfl⟩
  · rw [if_neg hp, if_neg hp, if_neg (fun h => hp (h3.mp h)), if_neg (fun h => hp (h3.mp h))]; exact ⟨Nat.xor_zero _, Nat.xor_zero _⟩
theorem numX_lt (l : List UInt8) : ∀ N, N ≤ 2048 → numX l N < 2048
  | 0, _ => by show (0 : Nat) < 2048; decide
  | N + 1, h => by
    simp only [numX]
    split
    · exact Nat.xor_lt_two_pow (n := 11) (numX_lt l N (by omega)) (by omega)
    · exact numX_lt l N (by omega)
theorem numA_lt (l : List UInt8) : ∀ N, numA l N < 2048
  | 0 => by show (0 : Nat) < 2048; decide
  | N + 1 => by
    simp only [numA]
    split
    · exact Nat.xor_lt_two_pow (n := 11) (numA_lt l N) (by decide)
    · exact numA_lt l N
/-- The sum of a sector as a number. -/
def sumN (l : List UInt8) : Nat := packN (numX l 2048) (numA l 2048)
theorem sumN_lt (l : List UInt8) : sumN l < 16777216 := by
  unfold sumN packN
  have h1 := spr_lt (numX l 2048)
  have h2 := spr_lt (numX l 2048 ^^^ numA l 2048)
  exact Nat.xor_lt_two_pow (n := 24) (Nat.xor_lt_two_pow (n := 24) (by decide) (show _ < 16777216 by omega)) (show _ < 16777216 by omega)
end Go.Proofs.YtafjnkmfebibfaaDoor
