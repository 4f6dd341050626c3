/- Plain words on two rails: columns, layings, readings. No program, no memory. -/
import Derived.Test.YtekbjcagjkcaiaaDoorSpec
namespace Go.Proofs.YtekbjcagjkcaiaaDoor
set_option linter.unusedSimpArgs false
set_option linter.unusedVariables false
/-- The column sum. -/
def colsB (l : List UInt8) : UInt8 := l.foldl (· ^^^ ·) 0
theorem colsB_snoc (l : List UInt8) (b : UInt8) : colsB (l ++ [b]) = colsB l ^^^ b := by simp [colsB, List.foldl_append]
theorem cols_step (l : List UInt8) (k : Nat) (h : k < l.length) : colsB (l.take (k + 1)) = colsB (l.take k) ^^^ bt l k := by
  rw [List.take_add_one, bt_get l k h]
  exact colsB_snoc _ _
/-- The laying of four bits. -/
def sprT (n : Nat) : Nat := [0xaa, 0xa9, 0xa6, 0xa5, 0x9a, 0x99, 0x96, 0x95, 0x6a, 0x69, 0x66, 0x65, 0x5a, 0x59, 0x56, 0x55].getD n 0
theorem sprT_lt : ∀ n : Nat, sprT n < 256 := by
  intro n
  by_cases h : n < 16
  · have : ∀ i : Fin 16, sprT i.val < 256 := by decide
    exact this ⟨n, h⟩
  · unfold sprT
    rw [List.getD_eq_getElem?_getD, List.getElem?_eq_none (by simp; omega)]
    decide
def sp4 (n : Nat) : UInt8 := UInt8.ofNat (sprT n)
theorem sp4_nat (n : Nat) : (sp4 n).toNat = sprT n := by unfold sp4; exact UInt8.toNat_ofNat_of_lt' (sprT_lt n)
def layTwo (b : UInt8) : List UInt8 := [sp4 (b.toNat % 16), sp4 (b.toNat / 16)]
def layAll : List UInt8 → List UInt8
  | [] => []
  | b :: r => layTwo b ++ layAll r
theorem layAll_app : ∀ l m : List UInt8, layAll (l ++ m) = layAll l ++ layAll m
  | [], m => rfl
  | b :: r, m => by rw [List.cons_append, layAll, layAll, layAll_app r m, List.append_assoc]
theorem layAll_len : ∀ l : List UInt8, (layAll l).length = 2 * l.length
  | [] => rfl
  | b :: r => by rw [layAll, List.length_append, layAll_len r, List.length_cons]; simp [layTwo]; omega
theorem layAll_step (l : List UInt8) (k : Nat) (h : k < l.length) : layAll (l.take (k + 1)) = layAll (l.take k) ++ layTwo (bt l k) := by
  rw [List.take_add_one, bt_get l k h, layAll_app]
  simp [layAll]
/-- With its columns behind it. -/
def withC (l : List UInt8) : List UInt8 := l ++ [colsB l]
def layB (l : List UInt8) : List UInt8 := layAll (withC l)
theorem withC_len (l : List UInt8) : (withC l).length = l.length + 1 := by simp [withC]
theorem layB_len (l : List UInt8) : (layB l).length = 2 * l.length + 2 := by rw [layB, layAll_len, withC_len]; omega
theorem layAll_bt : ∀ (l : List UInt8) (i : Nat), i < l.length → bt (layAll l) (2 * i) = sp4 ((bt l i).toNat % 16) ∧ bt (layAll l) (2 * i + 1) = sp4 ((bt l i).toNat / 16)
  | [], i, h => by simp at h
  | b :: r, 0, h => ⟨rfl, rfl⟩
  | b :: r, i + 1, h => by
    have ih := layAll_bt r i (by simpa using h)
    rw [layAll, show bt (b :: r) (i + 1) = bt r i from rfl, show 2 * (i + 1) = 2 * i + 1 + 1 by omega]
    exact ih
/-- The four lower bits of a byte's pairs; its broken pairs. -/
def nibN (x : Nat) : Nat := x % 2 + x / 4 % 2 * 2 + x / 16 % 2 * 4 + x / 64 % 2 * 8
def brkN (x : Nat) : Nat := (255 - (x ^^^ x / 2)) &&& 85
def tzN (x : Nat) : Nat := if x % 2 = 1 then 0 else if x / 4 % 2 = 1 then 2 else if x / 16 % 2 = 1 then 4 else if x / 64 % 2 = 1 then 6 else 8
def cntN (x : Nat) : Nat := x % 2 + x / 4 % 2 + x / 16 % 2 + x / 64 % 2
theorem nibN_lt (x : Nat) : nibN x < 16 := by unfold nibN; omega
theorem cntN_le (x : Nat) : cntN x ≤ 4 := by unfold cntN; omega
theorem brkN_lt (x : Nat) : brkN x < 256 := Nat.lt_of_le_of_lt Nat.and_le_right (by decide)
theorem tzN_lt (x : Nat) : tzN x ≤ 8 := by unfold tzN; repeat' split
                                           all_goals omega
theorem popN_brk : ∀ x : Fin 256, popN (brkN x.val) = cntN (brkN x.val) := by decide +kernel
theorem pop_brk (b : UInt8) : popN (brkN b.toNat) = cntN (brkN b.toNat) := popN_brk ⟨b.toNat, b.toNat_lt⟩
/-- The broken pairs of the first k bytes: none that may be (more than one); or the only one, if there is one. -/
def scanR (l : List UInt8) : Nat → Option (Option Nat)
  | 0 => some none
  | k + 1 => match scanR l k with
    | none => none
    | some o => if cntN (brkN (bt l k).toNat) = 0 then some o else if 1 < cntN (brkN (bt l k).toNat) ∨ o ≠ none then none else some (some (4 * k + tzN (brkN (bt l k).toNat) / 2))
theorem scan_none (l : List UInt8) (k : Nat) (h : scanR l k = none) : ∀ d, scanR l (k + d) = none
  | 0 => h
  | d + 1 => by rw [← Nat.add_assoc, scanR, scan_none l k h d]
theorem scan_lt (l : List UInt8) : ∀ k p, scanR l k = some (some p) → p < 4 * k
  | 0, p, h => by simp [scanR] at h
  | k + 1, p, h => by
    rw [scanR] at h
    split at h
    · cases h
    · rename_i o ho
      split at h
      · cases h
        have := scan_lt l k p ho
        omega
      · split at h
        · cases h
        · rename_i h1 h2
          cases h
          have h3 : tzN (brkN (bt l k).toNat) ≤ 6 := by
            unfold tzN
            unfold cntN at h1
            split; omega; split; omega; split; omega; split; omega; omega
          omega
/-- The bytes of the pairs' lower bits, when k bytes have been gone through. -/
def lowF (l : List UInt8) (k j : Nat) : UInt8 := UInt8.ofNat ((if 2 * j < k then nibN (bt l (2 * j)).toNat else 0) + (if 2 * j + 1 < k then nibN (bt l (2 * j + 1)).toNat * 16 else 0))
theorem lowF_nat (l : List UInt8) (k j : Nat) : (lowF l k j).toNat = (if 2 * j < k then nibN (bt l (2 * j)).toNat else 0) + (if 2 * j + 1 < k then nibN (bt l (2 * j + 1)).toNat * 16 else 0) := by
  unfold lowF
  apply UInt8.toNat_ofNat_of_lt'
  have h1 := nibN_lt (bt l (2 * j)).toNat
  have h2 := nibN_lt (bt l (2 * j + 1)).toNat
  show _ < 256
  split <;> split <;> omega
def lowK (l : List UInt8) (k : Nat) : List UInt8 := gen (lowF l k) (l.length / 2)
theorem lowK_len (l : List UInt8) (k : Nat) : (lowK l k).length = l.length / 2 := gen_len _ _
theorem gen_set (f : Nat → UInt8) (n j : Nat) (x : UInt8) (hj : j < n) : (gen f n).set j x = gen (fun i => if i = j then x else f i) n := by
  refine ext_bt (by simp [gen_len]) (fun i hi => ?_)
  have hi' : i < n := by simpa [gen_len] using hi
  rw [bt_set _ _ _ _ (by rw [gen_len]; exact hj), bt_gen _ _ _ hi', bt_gen _ _ _ hi']
theorem lowK_step (l : List UInt8) (k : Nat) (hk : k < l.length) (he : l.length % 2 = 0) : (lowK l k).set (k / 2) (lowF l (k + 1) (k / 2)) = lowK l (k + 1) := by
  unfold lowK
  rw [gen_set _ _ _ _ (by omega)]
  refine gen_congr fun i hi => ?_
  by_cases h : i = k / 2
  · rw [if_pos h, h]
  · rw [if_neg h]
    unfold lowF
    congr 2
    · by_cases h1 : 2 * i < k
      · rw [if_pos h1, if_pos (by omega)]
      · rw [if_neg h1, if_neg (by omega)]
    · by_cases h1 : 2 * i + 1 < k
      · rw [if_pos h1, if_pos (by omega)]
      · rw [if_neg h1, if_neg (by omega)]
theorem lowK_zero (l : List UInt8) : lowK l 0 = gen (fun _ => 0) (l.length / 2) := by
  unfold lowK
  refine gen_congr fun i hi => ?_
  unfold lowF
  rw [if_neg (by omega), if_neg (by omega)]
  rfl
/-- One byte more. -/
theorem low_step (l : List UInt8) (k : Nat) : (lowF l (k + 1) (k / 2)).toNat = (lowF l k (k / 2)).toNat ||| (nibN (bt l k).toNat * 2 ^ (4 * (k % 2))) ∧ (lowF l k (k / 2)).toNat < 16 := by
  have h2 := nibN_lt (bt l k).toNat
  rw [lowF_nat, lowF_nat]
  rcases Nat.mod_two_eq_zero_or_one k with h | h
  · rw [if_pos (show 2 * (k / 2) < k + 1 by omega), if_neg (show ¬ 2 * (k / 2) + 1 < k + 1 by omega), if_neg (show ¬ 2 * (k / 2) < k by omega), if_neg (show ¬ 2 * (k / 2) + 1 < k by omega), h, show 2 * (k / 2) = k by omega]
    simp
  · have h1 := nibN_lt (bt l (2 * (k / 2))).toNat
    rw [if_pos (show 2 * (k / 2) < k + 1 by omega), if_pos (show 2 * (k / 2) + 1 < k + 1 by omega), if_pos (show 2 * (k / 2) < k by omega), if_neg (show ¬ 2 * (k / 2) + 1 < k by omega), h, show 2 * (k / 2) + 1 = k by omega, Nat.add_zero]
    refine ⟨?_, h1⟩
    have := Nat.two_pow_add_eq_or_of_lt (i := 4) (by simpa using h1) (nibN (bt l k).toNat)
    rw [Nat.or_comm, show nibN (bt l k).toNat * 2 ^ (4 * 1) = 2 ^ 4 * nibN (bt l k).toNat by rw [Nat.mul_comm], ← this]
    omega
def lowR (l : List UInt8) : List UInt8 := lowK l l.length
/-- The bit of the broken pair as the columns want it. -/
def fixB (out : List UInt8) (p : Nat) : List UInt8 := out.set (p / 8) (bt out (p / 8) ^^^ (colsB out &&& UInt8.ofNat (2 ^ (p % 8))))
theorem fixB_len (out : List UInt8) (p : Nat) : (fixB out p).length = out.length := by simp [fixB]
def outR (l : List UInt8) : Option Nat → List UInt8
  | none => lowR l
  | some p => fixB (lowR l) p
theorem outR_len (l : List UInt8) (o : Option Nat) : (outR l o).length = l.length / 2 := by
  cases o with
  | none => exact lowK_len _ _
  | some p => exact (fixB_len _ _).trans (lowK_len _ _)
def atR : Option Nat → Int
  | none => -1
  | some p => p
/-- What Read answers. -/
def endR (l : List UInt8) : Option (Option Nat) → List UInt8 × Int × Int
  | none => ([], 0, 30)
  | some o => if colsB (outR l o) ≠ 0 then ([], 0, 30) else ((outR l o).take (l.length / 2 - 1), atR o, 0)
def readR (l : List UInt8) : List UInt8 × Int × Int :=
  if l.length < 2 ∨ l.length % 2 ≠ 0 ∨ 8192 < l.length then ([], 0, 31) else endR l (scanR l l.length)
/-- What Lay and Size answer. -/
def layR (l : List UInt8) : List UInt8 × Int := if 4095 < l.length then ([], 31) else (layB l, 0)
def sizeR (n : Int) : Int × Int := if n < 0 ∨ 4095 < n then (0, 31) else (2 * (n + 1), 0)
end Go.Proofs.YtekbjcagjkcaiaaDoor
