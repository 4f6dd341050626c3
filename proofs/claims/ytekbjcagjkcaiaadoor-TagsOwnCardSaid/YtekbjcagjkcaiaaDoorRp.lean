/- Plain words on broken pairs, one by one (the document's way of reading rails). -/
import Derived.Test.YtekbjcagjkcaiaaDoorRm
namespace Go.Proofs.YtekbjcagjkcaiaaDoor
set_option linter.unusedSimpArgs false
set_option linter.unusedVariables false
/-- Is the pair k of a byte broken? -/
def bkB (b k : Nat) : Bool := b / 2 ^ (2 * k) % 2 == b / 2 ^ (2 * k + 1) % 2
/-- The pair number N of bytes. -/
def bkN (l : List UInt8) (N : Nat) : Bool := bkB (bt l (N / 4)).toNat (N % 4)
def bcN (l : List UInt8) : Nat → Nat
  | 0 => 0
  | N + 1 => bcN l N + if bkN l N then 1 else 0
def blN (l : List UInt8) : Nat → Int
  | 0 => -1
  | N + 1 => if bkN l N then (N : Int) else blN l N
theorem bcN_le (l : List UInt8) : ∀ N, bcN l N ≤ N
  | 0 => Nat.le_refl _
  | N + 1 => by have := bcN_le l N; rw [bcN]; split <;> omega
theorem cnt_tab : ∀ b : Fin 256, cntN (brkN b.val) = (if bkB b.val 0 then 1 else 0) + (if bkB b.val 1 then 1 else 0) + (if bkB b.val 2 then 1 else 0) + (if bkB b.val 3 then 1 else 0) := by decide +kernel
theorem tz_tab1 : ∀ b : Fin 256, cntN (brkN b.val) = 1 → tzN (brkN b.val) / 2 < 4 ∧ ∀ k : Fin 4, bkB b.val k.val = decide (k.val = tzN (brkN b.val) / 2) := by decide +kernel
theorem bkN_at (l : List UInt8) (k j : Nat) (hj : j < 4) : bkN l (4 * k + j) = bkB (bt l k).toNat j := by
  unfold bkN
  rw [show (4 * k + j) / 4 = k by omega, show (4 * k + j) % 4 = j by omega]
theorem bc_four (l : List UInt8) (k : Nat) : bcN l (4 * (k + 1)) = bcN l (4 * k) + cntN (brkN (bt l k).toNat) := by
  have h := cnt_tab ⟨(bt l k).toNat, (bt l k).toNat_lt⟩
  simp only at h
  rw [show 4 * (k + 1) = 4 * k + 3 + 1 by omega, bcN, show 4 * k + 3 = 4 * k + 2 + 1 by omega, bcN, show 4 * k + 2 = 4 * k + 1 + 1 by omega, bcN, bcN, h]
  rw [show 4 * k + 1 + 1 + 1 = 4 * k + 3 by omega, show 4 * k + 1 + 1 = 4 * k + 2 by omega, bkN_at l k 3 (by decide), bkN_at l k 2 (by decide), bkN_at l k 1 (by decide), show bkN l (4 * k) = bkB (bt l k).toNat 0 from bkN_at l k 0 (by decide)]
  omega
/-- None is broken ahead of N. -/
theorem bc_zero (l : List UInt8) : ∀ N, bcN l N = 0 → blN l N = -1 ∧ ∀ n, n < N → bkN l n = false
  | 0, _ => ⟨rfl, fun n hn => by omega⟩
  | N + 1, h => by
    rw [bcN] at h
    have h1 : bkN l N = false := by cases e : bkN l N with | false => rfl | true => rw [e] at h; simp at h
    rw [h1] at h
    obtain ⟨h2, h3⟩ := bc_zero l N (by simpa using h)
    refine ⟨by rw [blN, h1]; exact h2, fun n hn => ?_⟩
    by_cases e : n = N
    · rw [e]; exact h1
    · exact h3 n (by omega)
theorem bc_one (l : List UInt8) : ∀ N, bcN l N = 1 → ∃ p : Nat, p < N ∧ blN l N = p ∧ ∀ n, n < N → (bkN l n = true ↔ n = p)
  | 0, h => by cases h
  | N + 1, h => by
    rw [bcN] at h
    cases e : bkN l N with
    | false =>
      rw [e] at h
      obtain ⟨p, h1, h2, h3⟩ := bc_one l N (by simpa using h)
      refine ⟨p, by omega, by rw [blN, e]; exact h2, fun n hn => ?_⟩
      by_cases e2 : n = N
      · subst e2; rw [e]; constructor
        · intro h; cases h
        · intro h; omega
      · exact h3 n (by omega)
    | true =>
      rw [e] at h
      obtain ⟨h2, h3⟩ := bc_zero l N (by simpa using h)
      refine ⟨N, by omega, by rw [blN, e]; rfl, fun n hn => ?_⟩
      by_cases e2 : n = N
      · subst e2; rw [e]; exact ⟨fun _ => rfl, fun _ => rfl⟩
      · rw [h3 n (by omega)]; constructor
        · intro h; cases h
        · intro h; exact absurd h e2
/-- What the reading has seen is what is counted. -/
theorem scan_bc (l : List UInt8) : ∀ k, (∃ o, scanR l k = some o ∧ bcN l (4 * k) ≤ 1 ∧ (o = none → bcN l (4 * k) = 0) ∧ (∀ p, o = some p → bcN l (4 * k) = 1 ∧ bkN l p = true ∧ p < 4 * k)) ∨ (scanR l k = none ∧ 1 < bcN l (4 * k))
  | 0 => .inl ⟨none, rfl, Nat.zero_le _, fun _ => rfl, fun p h => by cases h⟩
  | k + 1 => by
    have h4 := bc_four l k
    rcases scan_bc l k with ⟨o, h1, h2, h3, h5⟩ | ⟨h1, h2⟩
    · rw [scanR, h1]
      simp only
      by_cases c0 : cntN (brkN (bt l k).toNat) = 0
      · rw [if_pos c0]
        refine .inl ⟨o, rfl, by omega, fun h => by have := h3 h; omega, fun p h => ?_⟩
        have := h5 p h
        exact ⟨by omega, this.2.1, by omega⟩
      · rw [if_neg c0]
        by_cases c1 : 1 < cntN (brkN (bt l k).toNat)
        · rw [if_pos (.inl c1)]; exact .inr ⟨rfl, by omega⟩
        · rcases o with _ | p
          · rw [if_neg (by rintro (h | h); exact c1 h; exact h rfl)]
            have hc1 : cntN (brkN (bt l k).toNat) = 1 := by omega
            obtain ⟨ht, hall⟩ := tz_tab1 ⟨(bt l k).toNat, (bt l k).toNat_lt⟩ hc1
            simp only at ht hall
            have hz := h3 rfl
            refine .inl ⟨_, rfl, by omega, (fun h => by cases h), fun p h => ?_⟩
            cases h
            refine ⟨by omega, ?_, by omega⟩
            rw [bkN_at l k _ ht]
            have := hall ⟨tzN (brkN (bt l k).toNat) / 2, ht⟩
            simp only [decide_true] at this
            exact this
          · rw [if_pos (.inr (by simp))]
            have := h5 p rfl
            exact .inr ⟨rfl, by omega⟩
    · refine .inr ⟨?_, by omega⟩
      rw [scanR, h1]
theorem nib_step : ∀ b : Fin 256, ∀ k : Fin 4, nibN b.val % 2 ^ (k.val + 1) = nibN b.val % 2 ^ k.val + b.val / 2 ^ (2 * k.val) % 2 * 2 ^ k.val := by decide +kernel
/-- A byte of the lower bits, when k pairs of the byte i have been gone through. -/
def lowP (l : List UInt8) (i k : Nat) : UInt8 := UInt8.ofNat ((lowF l i (i / 2)).toNat + nibN (bt l i).toNat % 2 ^ k * 2 ^ (4 * (i % 2)))
theorem lowP_bd (l : List UInt8) (i k : Nat) (hk : k ≤ 4) : (lowF l i (i / 2)).toNat < 2 ^ (4 * (i % 2)) ∧ nibN (bt l i).toNat % 2 ^ k < 2 ^ k ∧ (lowF l i (i / 2)).toNat + nibN (bt l i).toNat % 2 ^ k * 2 ^ (4 * (i % 2)) < 2 ^ (4 * (i % 2) + k) := by
  have h1 : (lowF l i (i / 2)).toNat < 2 ^ (4 * (i % 2)) := by
    rw [lowF_nat]
    rcases Nat.mod_two_eq_zero_or_one i with h | h
    · rw [if_neg (by omega), if_neg (by omega), h]; decide
    · rw [if_pos (by omega), if_neg (by omega), h]
      have := nibN_lt (bt l (2 * (i / 2))).toNat
      simpa using this
  have h2 : nibN (bt l i).toNat % 2 ^ k < 2 ^ k := Nat.mod_lt _ (Nat.two_pow_pos k)
  refine ⟨h1, h2, ?_⟩
  rw [Nat.pow_add]
  have h3 : nibN (bt l i).toNat % 2 ^ k * 2 ^ (4 * (i % 2)) ≤ (2 ^ k - 1) * 2 ^ (4 * (i % 2)) := Nat.mul_le_mul_right _ (by omega)
  have h4 : (2 ^ k - 1) * 2 ^ (4 * (i % 2)) + 2 ^ (4 * (i % 2)) = 2 ^ (4 * (i % 2)) * 2 ^ k := by
    have h5 := Nat.two_pow_pos k
    rw [Nat.mul_comm (2 ^ (4 * (i % 2))), ← Nat.succ_mul, Nat.succ_eq_add_one, Nat.sub_add_cancel h5]
  omega
theorem lowP_nat (l : List UInt8) (i k : Nat) (hk : k ≤ 4) : (lowP l i k).toNat = (lowF l i (i / 2)).toNat + nibN (bt l i).toNat % 2 ^ k * 2 ^ (4 * (i % 2)) := by
  unfold lowP
  apply UInt8.toNat_ofNat_of_lt'
  have h := (lowP_bd l i k hk).2.2
  have h2 : 2 ^ (4 * (i % 2) + k) ≤ 2 ^ 8 := Nat.pow_le_pow_right (by decide) (by omega)
  exact Nat.lt_of_lt_of_le h h2
theorem lowP_step (l : List UInt8) (i k : Nat) (hk : k < 4) : (lowP l i (k + 1)).toNat = (lowP l i k).toNat ||| (bt l i).toNat / 2 ^ (2 * k) % 2 * 2 ^ (4 * (i % 2) + k) := by
  obtain ⟨h1, h2, h3⟩ := lowP_bd l i k (by omega)
  rw [lowP_nat l i (k + 1) (by omega), lowP_nat l i k (by omega)]
  have hs := nib_step ⟨(bt l i).toNat, (bt l i).toNat_lt⟩ ⟨k, hk⟩
  simp only at hs
  rw [hs, Nat.add_mul, ← Nat.add_assoc]
  generalize (lowF l i (i / 2)).toNat + nibN (bt l i).toNat % 2 ^ k * 2 ^ (4 * (i % 2)) = s at *
  have h4 := Nat.two_pow_add_eq_or_of_lt h3 ((bt l i).toNat / 2 ^ (2 * k) % 2)
  rw [Nat.or_comm, Nat.mul_comm ((bt l i).toNat / 2 ^ (2 * k) % 2) (2 ^ (4 * (i % 2) + k)), ← h4, Nat.pow_add, Nat.mul_assoc, Nat.mul_comm (2 ^ (4 * (i % 2))), Nat.mul_comm (2 ^ k), ← Nat.mul_assoc, Nat.add_comm]
  congr 1
  rw [Nat.mul_assoc, Nat.mul_assoc, Nat.mul_comm (2 ^ k)]
  exact Nat.mul_left_comm _ _ _
theorem lowP_zero (l : List UInt8) (i : Nat) : lowP l i 0 = lowF l i (i / 2) := by
  apply UInt8.toNat_inj.1
  rw [lowP_nat l i 0 (by decide)]
  simp [Nat.mod_one]
theorem lowP_four (l : List UInt8) (i : Nat) : lowP l i 4 = lowF l (i + 1) (i / 2) := by
  apply UInt8.toNat_inj.1
  rw [lowP_nat l i 4 (by decide)]
  have h16 := nibN_lt (bt l i).toNat
  rw [show (2 : Nat) ^ 4 = 16 from rfl, Nat.mod_eq_of_lt h16]
  have h1 := (lowP_bd l i 4 (by decide)).1
  have h := (low_step l i).1
  rw [h]
  have h4 := Nat.two_pow_add_eq_or_of_lt h1 (nibN (bt l i).toNat)
  rw [Nat.or_comm, Nat.mul_comm, ← h4, Nat.add_comm]
/-- The state of the lower bits. -/
def lowS (l : List UInt8) (i k : Nat) : List UInt8 := (lowK l i).set (i / 2) (lowP l i k)
theorem lowS_len (l : List UInt8) (i k : Nat) : (lowS l i k).length = l.length / 2 := by simp [lowS, lowK_len]
theorem lowS_zero (l : List UInt8) (i : Nat) (hi : i / 2 < l.length / 2) : lowS l i 0 = lowK l i := by
  unfold lowS
  rw [lowP_zero]
  refine ext_bt (by simp) (fun j hj => ?_)
  rw [bt_set _ _ _ _ (by rw [lowK_len]; exact hi)]
  split
  · rename_i h; subst h; unfold lowK; rw [bt_gen _ _ _ hi]
  · rfl
theorem lowS_four (l : List UInt8) (i : Nat) (hi : i < l.length) (he : l.length % 2 = 0) : lowS l i 4 = lowK l (i + 1) := by
  unfold lowS
  rw [lowP_four, lowK_step l i hi he]
theorem lowS_bt (l : List UInt8) (i k : Nat) (hi : i / 2 < l.length / 2) : bt (lowS l i k) (i / 2) = lowP l i k := by
  unfold lowS
  rw [bt_set _ _ _ _ (by rw [lowK_len]; exact hi), if_pos rfl]
theorem lowS_set (l : List UInt8) (i k k' : Nat) : (lowS l i k).set (i / 2) (lowP l i k') = lowS l i k' := by
  unfold lowS
  rw [List.set_set]
/-- One bit of a byte, as the columns want it. -/
theorem and_pow : ∀ c : Fin 256, ∀ r : Fin 8, c.val &&& 2 ^ r.val = if c.val / 2 ^ r.val % 2 = 1 then 2 ^ r.val else 0 := by decide +kernel
theorem fix_bit (out : List UInt8) (p : Nat) : fixB out p = if (colsB out).toNat / 2 ^ (p % 8) % 2 = 1 then out.set (p / 8) (bt out (p / 8) ^^^ UInt8.ofNat (2 ^ (p % 8))) else out.set (p / 8) (bt out (p / 8)) := by
  have h := and_pow ⟨(colsB out).toNat, (colsB out).toNat_lt⟩ ⟨p % 8, Nat.mod_lt _ (by decide)⟩
  simp only at h
  have h8 : (2 : Nat) ^ (p % 8) < 256 := bit_lt _ (Nat.mod_lt _ (by decide))
  have e : colsB out &&& UInt8.ofNat (2 ^ (p % 8)) = if (colsB out).toNat / 2 ^ (p % 8) % 2 = 1 then UInt8.ofNat (2 ^ (p % 8)) else 0 := by
    apply UInt8.toNat_inj.1
    rw [UInt8.toNat_and, UInt8.toNat_ofNat_of_lt' (by exact h8), h]
    split
    · rw [UInt8.toNat_ofNat_of_lt' (by exact h8)]
    · rfl
  unfold fixB
  rw [e]
  split
  · rfl
  · rw [UInt8.xor_zero]
theorem set_same (l : List UInt8) (i : Nat) : l.set i (bt l i) = l := by
  refine ext_bt (by simp) (fun j hj => ?_)
  by_cases h : i < l.length
  · rw [bt_set _ _ _ _ h]; split
    · rename_i e; rw [e]
    · rfl
  · rw [List.set_eq_of_length_le (by omega)]
end Go.Proofs.YtekbjcagjkcaiaaDoor
