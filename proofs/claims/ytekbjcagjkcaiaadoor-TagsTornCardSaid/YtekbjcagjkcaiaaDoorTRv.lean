/- Plain words on a laying of which bits have gone one way. -/
import Derived.Test.YtekbjcagjkcaiaaDoorTta
import Derived.Test.YtekbjcagjkcaiaaDoorRn
namespace Go.Proofs.YtekbjcagjkcaiaaDoor
set_option linter.unusedSimpArgs false
set_option linter.unusedVariables false
theorem apB_bits (a b : List UInt8) (N : Nat) : apB a b N = if bitAt a N = bitAt b N then 0 else 1 := by
  unfold apB bitAt
  rw [UInt8.toNat_xor, ← Nat.toNat_testBit, ← Nat.toNat_testBit, ← Nat.toNat_testBit, Nat.testBit_xor]
  cases (bt a (N / 8)).toNat.testBit (N % 8) <;> cases (bt b (N / 8)).toNat.testBit (N % 8) <;> decide
/-- The pair of the last bit that differs. -/
def laN (a b : List UInt8) : Nat → Int
  | 0 => -1
  | N + 1 => if apB a b N = 1 then ((N / 2 : Nat) : Int) else laN a b N
def tornB (up : Bool) (L mask : List UInt8) (i : Nat) : UInt8 := if up then riseB L mask 0 i else bt L i &&& (mk mask 0 i ^^^ 255)
def tornR (up : Bool) (L mask : List UInt8) : List UInt8 := gen (tornB up L mask) L.length
theorem tornR_len (up : Bool) (L mask : List UInt8) : (tornR up L mask).length = L.length := gen_len _ _
theorem torn_bits (up : Bool) (L mask : List UInt8) (N : Nat) (hN : N < 8 * L.length) : if up then bitAt L N ≤ bitAt (tornR up L mask) N else bitAt (tornR up L mask) N ≤ bitAt L N := by
  unfold bitAt tornR
  rw [bt_gen _ _ _ (by omega), ← Nat.toNat_testBit, ← Nat.toNat_testBit]
  unfold tornB
  cases up with
  | true =>
    simp only [if_true, riseB]
    rw [UInt8.toNat_or, Nat.testBit_or]
    cases (bt L (N / 8)).toNat.testBit (N % 8) <;> cases (mk mask 0 (N / 8)).toNat.testBit (N % 8) <;> decide
  | false =>
    simp only [Bool.false_eq_true, if_false]
    rw [UInt8.toNat_and, Nat.testBit_and]
    cases (bt L (N / 8)).toNat.testBit (N % 8) <;> cases (mk mask 0 (N / 8) ^^^ 255).toNat.testBit (N % 8) <;> decide
section
variable {l T : List UInt8} {up : Bool}
theorem torn_pair (hT : ∀ N, N < 8 * (2 * l.length + 2) → if up then bitAt (layB l) N ≤ bitAt T N else bitAt T N ≤ bitAt (layB l) N) (M : Nat) (hM : M < 8 * (l.length + 1)) :
    (bkN T M = true → apB (layB l) T (2 * M) + apB (layB l) T (2 * M + 1) = 1) ∧ (bkN T M = false → apB (layB l) T (2 * M) = 0 ∧ apB (layB l) T (2 * M + 1) = 0) := by
  have h1 := layB_whole l M hM
  have h2 := hT (2 * M) (by omega)
  have h3 := hT (2 * M + 1) (by omega)
  rw [bk_bits] at h1 ⊢
  rw [apB_bits, apB_bits]
  have a := bitAt_or (layB l) (2 * M)
  have b := bitAt_or (layB l) (2 * M + 1)
  have c := bitAt_or T (2 * M)
  have d := bitAt_or T (2 * M + 1)
  rcases a with a | a <;> rcases b with b | b <;> rcases c with c | c <;> rcases d with d | d <;> rw [a, b] at h1 <;> rw [a, c] at h2 <;> rw [b, d] at h3 <;> rw [a, b, c, d] <;> cases up <;> revert h1 h2 h3 <;> decide
theorem torn_count (hT : ∀ N, N < 8 * (2 * l.length + 2) → if up then bitAt (layB l) N ≤ bitAt T N else bitAt T N ≤ bitAt (layB l) N) : ∀ M, M ≤ 8 * (l.length + 1) → apTo (layB l) T (2 * M) = bcN T M ∧ laN (layB l) T (2 * M) = blN T M
  | 0, _ => ⟨rfl, rfl⟩
  | M + 1, h => by
    obtain ⟨i1, i2⟩ := torn_count hT M (by omega)
    obtain ⟨h1, h2⟩ := torn_pair hT M (by omega)
    rw [show 2 * (M + 1) = 2 * M + 1 + 1 by omega, apTo, apTo, laN, laN, bcN, blN, i1, i2]
    cases e : bkN T M with
    | false =>
      obtain ⟨h3, h4⟩ := h2 e
      rw [h3, h4, if_neg (by decide), if_neg (by decide)]
      exact ⟨rfl, rfl⟩
    | true =>
      have h3 := h1 e
      refine ⟨by simp; omega, ?_⟩
      simp only [if_true]
      by_cases h4 : apB (layB l) T (2 * M + 1) = 1
      · rw [if_pos h4, show (2 * M + 1) / 2 = M by omega]
      · rw [if_neg h4, if_pos (by omega), show 2 * M / 2 = M by omega]
theorem torn_read (hl : l.length ≤ 4095) (hTl : T.length = 2 * l.length + 2) (hT : ∀ N, N < 8 * (2 * l.length + 2) → if up then bitAt (layB l) N ≤ bitAt T N else bitAt T N ≤ bitAt (layB l) N) :
    (1 < apTo (layB l) T (8 * (2 * l.length + 2)) → readR T = ([], 0, 30)) ∧ (apTo (layB l) T (8 * (2 * l.length + 2)) ≤ 1 → readR T = (l, laN (layB l) T (8 * (2 * l.length + 2)), 0)) := by
  have hL := layB_len l
  obtain ⟨hc, hla⟩ := torn_count hT (8 * (l.length + 1)) (Nat.le_refl _)
  rw [show 8 * (2 * l.length + 2) = 2 * (8 * (l.length + 1)) by omega, hc, hla]
  rw [show 8 * (l.length + 1) = 4 * T.length by omega] at hc hla ⊢
  constructor
  · intro h
    unfold readR
    rw [if_neg (by omega)]
    rcases scan_bc T T.length with ⟨o', h1, h2, h3, h4⟩ | ⟨h1, h2⟩
    · omega
    · rw [h1]; rfl
  · intro h
    by_cases h0 : bcN T (4 * T.length) = 0
    · obtain ⟨hz1, hz2⟩ := bc_zero T _ h0
      have : T = layB l := bit_ext _ _ (by rw [hTl, hL]) (fun N hN => by
        obtain ⟨_, h5⟩ := torn_pair hT (N / 2) (by omega)
        obtain ⟨h6, h7⟩ := h5 (hz2 (N / 2) (by omega))
        rw [apB_bits] at h6 h7
        rcases Nat.mod_two_eq_zero_or_one N with hm | hm
        · rw [show 2 * (N / 2) = N by omega] at h6
          by_cases e : bitAt (layB l) N = bitAt T N
          · exact e.symm
          · rw [if_neg e] at h6; cases h6
        · rw [show 2 * (N / 2) + 1 = N by omega] at h7
          by_cases e : bitAt (layB l) N = bitAt T N
          · exact e.symm
          · rw [if_neg e] at h7; cases h7)
      rw [hz1, this]
      exact read_lay l hl
    · obtain ⟨p, hp, hbl, hp2⟩ := bc_one T (4 * T.length) (by omega)
      rw [hbl]
      obtain ⟨h5, _⟩ := torn_pair hT p (by omega)
      have h6 := h5 ((hp2 p hp).2 rfl)
      have hsame : ∀ N, N < 8 * (2 * l.length + 2) → N / 2 ≠ p → bitAt T N = bitAt (layB l) N := fun N hN hne => by
        obtain ⟨_, h7⟩ := torn_pair hT (N / 2) (by omega)
        have h8 : bkN T (N / 2) = false := by cases e : bkN T (N / 2) with | false => rfl | true => exact absurd ((hp2 (N / 2) (by omega)).1 e) hne
        obtain ⟨h9, h10⟩ := h7 h8
        rw [apB_bits] at h9 h10
        rcases Nat.mod_two_eq_zero_or_one N with hm | hm
        · rw [show 2 * (N / 2) = N by omega] at h9
          by_cases e : bitAt (layB l) N = bitAt T N
          · exact e.symm
          · rw [if_neg e] at h9; cases h9
        · rw [show 2 * (N / 2) + 1 = N by omega] at h10
          by_cases e : bitAt (layB l) N = bitAt T N
          · exact e.symm
          · rw [if_neg e] at h10; cases h10
      have hflip : ∀ i, i / 2 = p → apB (layB l) T i = 1 → (∀ k, k / 2 = p → k ≠ i → apB (layB l) T k = 0) → i < 8 * (2 * l.length + 2) → T = flipB (layB l) i := fun i hi h1 h2 hil => by
        refine bit_ext _ _ (by rw [hTl, flipB_len, hL]) (fun N hN => ?_)
        rw [flip_bits _ _ _ (by omega)]
        by_cases e : N = i
        · rw [if_pos e]
          rw [apB_bits, ← e] at h1
          have a := bitAt_or (layB l) N
          have b := bitAt_or T N
          by_cases e2 : bitAt (layB l) N = bitAt T N
          · rw [if_pos e2] at h1; cases h1
          · omega
        · rw [if_neg e]
          by_cases e2 : N / 2 = p
          · have h3 := h2 N e2 e
            rw [apB_bits] at h3
            by_cases e3 : bitAt (layB l) N = bitAt T N
            · exact e3.symm
            · rw [if_neg e3] at h3; cases h3
          · exact hsame N (by omega) e2
      by_cases h7 : apB (layB l) T (2 * p) = 1
      · rw [hflip (2 * p) (by omega) h7 (fun k hk hne => by rw [show k = 2 * p + 1 by omega]; omega) (by omega), read_flip l (2 * p) hl (by omega), show 2 * p / 2 = p by omega]
      · rw [hflip (2 * p + 1) (by omega) (by omega) (fun k hk hne => by rw [show k = 2 * p by omega]; omega) (by omega), read_flip l (2 * p + 1) hl (by omega), show (2 * p + 1) / 2 = p by omega]
end
theorem la_zero (a b : List UInt8) : ∀ N, apTo a b N = 0 → laN a b N = -1
  | 0, _ => rfl
  | N + 1, h => by
    rw [apTo] at h
    rw [laN, if_neg (by omega)]
    exact la_zero a b N (by omega)
theorem la_pos (a b : List UInt8) : ∀ N, 0 < apTo a b N → 0 ≤ laN a b N
  | 0, h => by cases h
  | N + 1, h => by
    rw [apTo] at h
    rw [laN]
    split
    · omega
    · rename_i h1
      have h2 : apB a b N < 2 := Nat.mod_lt _ (by decide)
      exact la_pos a b N (by omega)
/-- Bits beyond the mask stay. -/
theorem torn_off (up : Bool) (L mask : List UInt8) (i : Nat) (h : mask.length ≤ i) : tornB up L mask i = bt L i := by
  unfold tornB
  have hm : mk mask 0 i = 0 := by unfold mk; rw [if_neg (by omega)]
  cases up with
  | true => simp only [if_true, riseB, hm, UInt8.or_zero]
  | false =>
    simp only [Bool.false_eq_true, if_false, hm]
    apply UInt8.toNat_inj.1
    rw [UInt8.toNat_and, show ((0 : UInt8) ^^^ 255).toNat = 2 ^ 8 - 1 from rfl, Nat.and_two_pow_sub_one_eq_mod]
    have := (bt L i).toNat_lt
    omega
theorem torn_cut (up : Bool) (L mask : List UInt8) (m : Nat) (hm : m ≤ L.length) (h : m = L.length ∨ mask.length ≤ m) : upd (tornB up L mask) L m = tornR up L mask := by
  unfold tornR
  refine ext_bt ?_ (fun i hi => ?_)
  · rw [upd_len _ _ _ hm, gen_len]
  · rw [upd_len _ _ _ hm] at hi
    rw [bt_gen _ _ _ hi]
    by_cases hlt : i < m
    · unfold upd bt
      rw [List.getD_eq_getElem?_getD, List.getElem?_append_left (by rw [gen_len]; omega)]
      have h2 := bt_gen (tornB up L mask) m i hlt
      unfold bt at h2
      rw [List.getD_eq_getElem?_getD] at h2
      exact h2
    · rw [torn_off up L mask i (by omega)]
      unfold upd bt
      rw [List.getD_eq_getElem?_getD, List.getD_eq_getElem?_getD, List.getElem?_append_right (by rw [gen_len]; omega), gen_len, List.getElem?_drop, show m + (i - m) = i by omega]
theorem torn_same (up : Bool) (L mask : List UInt8) (m : Nat) (h : mask.length ≤ m) : ∀ d, 8 * m + d ≤ 8 * L.length → apTo L (tornR up L mask) (8 * m + d) = apTo L (tornR up L mask) (8 * m)
  | 0, _ => rfl
  | d + 1, hd => by
    have e : bt (tornR up L mask) ((8 * m + d) / 8) = bt L ((8 * m + d) / 8) := by
      unfold tornR
      rw [bt_gen _ _ _ (by omega), torn_off up L mask _ (by omega)]
    have e2 : apB L (tornR up L mask) (8 * m + d) = 0 := by
      rw [apB_bits]
      unfold bitAt
      rw [e, if_pos rfl]
    rw [show 8 * m + (d + 1) = 8 * m + d + 1 by omega, apTo, e2, torn_same up L mask m h d (by omega)]
    rfl
theorem torn_all (up : Bool) (L mask : List UInt8) (m : Nat) (hm : m ≤ L.length) (h : m = L.length ∨ mask.length ≤ m) : apTo L (tornR up L mask) (8 * m) = apTo L (tornR up L mask) (8 * L.length) := by
  rcases h with h | h
  · rw [h]
  · have := torn_same up L mask m h (8 * L.length - 8 * m) (by omega)
    rw [show 8 * m + (8 * L.length - 8 * m) = 8 * L.length by omega] at this
    exact this.symm
end Go.Proofs.YtekbjcagjkcaiaaDoor
