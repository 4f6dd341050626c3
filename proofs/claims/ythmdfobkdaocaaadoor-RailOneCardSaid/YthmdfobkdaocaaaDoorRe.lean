/- Plain words: what is read without a mend is laid as that, with one it is one bit away. -/
import Derived.Test.YthmdfobkdaocaaaDoorRv
namespace Go.Proofs.YthmdfobkdaocaaaDoor
set_option linter.unusedSimpArgs false
set_option linter.unusedVariables false
/-- What a reading that goes well tells of its rows. -/
theorem read_inv (b x : List UInt8) (t : Int) (h : readR b = (x, t, 0)) : ∃ o : Option Nat, t = atR o ∧ b.length = 2 * x.length + 2 ∧ x.length ≤ 4095 ∧ outR b o = withC x ∧ (∀ N, N < 4 * b.length → (bkN b N = true ↔ o = some N)) ∧ ∀ p, o = some p → p < 4 * b.length := by
  unfold readR at h
  by_cases hbad : b.length < 2 ∨ b.length % 2 ≠ 0 ∨ 8192 < b.length
  · rw [if_pos hbad] at h
    have := congrArg (fun z => z.2.2) h
    simp at this
  · rw [if_neg hbad] at h
    rcases scan_bc b b.length with ⟨o, h1, h2, h3, h4⟩ | ⟨h1, h2⟩
    · rw [h1] at h
      simp only [endR] at h
      by_cases hc : colsB (outR b o) = 0
      · rw [if_neg (by simpa using hc)] at h
        have e1 : (outR b o).take (b.length / 2 - 1) = x := congrArg (fun z => z.1) h
        have e2 : atR o = t := congrArg (fun z => z.2.1) h
        have hlen := outR_len b o
        have hxl : x.length = b.length / 2 - 1 := by rw [← e1, List.length_take, hlen]; omega
        obtain ⟨hbk, _⟩ : (∀ N, N < 4 * b.length → (bkN b N = true ↔ o = some N)) ∧ True := by
          refine ⟨fun N hN => ?_, trivial⟩
          rcases o with _ | p
          · obtain ⟨_, h6⟩ := bc_zero b _ (h3 rfl)
            constructor
            · intro h; rw [h6 N hN] at h; cases h
            · intro h; cases h
          · obtain ⟨h5, h6, h7⟩ := h4 p rfl
            obtain ⟨p', _, _, h8⟩ := bc_one b _ h5
            have : p = p' := (h8 p h7).1 h6
            subst this
            rw [h8 N hN]
            exact ⟨fun e => by rw [e], fun e => (Option.some.inj e).symm⟩
        refine ⟨o, e2.symm, by omega, by omega, ?_, hbk, fun p hp => (h4 p hp).2.2⟩
        -- the last byte is the columns of the others
        have hsp := split_at (outR b o) (b.length / 2 - 1) (by omega)
        rw [List.drop_eq_nil_of_le (by omega), List.append_nil, e1] at hsp
        rw [hsp] at hc
        rw [colsB_app, colsB_one] at hc
        have hcx : bt (outR b o) (b.length / 2 - 1) = colsB x := by
          have : colsB x ^^^ (colsB x ^^^ bt (outR b o) (b.length / 2 - 1)) = colsB x ^^^ 0 := by rw [hc]
          rw [← UInt8.xor_assoc, UInt8.xor_self, UInt8.zero_xor, UInt8.xor_zero] at this
          exact this
        rw [hcx] at hsp
        exact hsp
      · rw [if_pos hc] at h
        have := congrArg (fun z => z.2.2) h
        simp at this
    · rw [h1] at h
      have := congrArg (fun z => z.2.2) h
      simp [endR] at this
theorem read_err (b x : List UInt8) (t e : Int) (h : readR b = (x, t, e)) (he : e ≠ 0) : x = [] ∧ t = 0 := by
  unfold readR at h
  split at h
  · cases h; exact ⟨rfl, rfl⟩
  · cases hs : scanR b b.length with
    | none => rw [hs] at h; simp only [endR] at h; cases h; exact ⟨rfl, rfl⟩
    | some o =>
      rw [hs] at h
      simp only [endR] at h
      split at h
      · cases h; exact ⟨rfl, rfl⟩
      · exfalso; apply he; have := congrArg (fun z => z.2.2) h; exact this.symm
theorem fix_bits (out : List UInt8) (p N : Nat) (hp : p / 8 < out.length) (hne : N ≠ p) : bitAt (fixB out p) N = bitAt out N := by
  rw [fix_bit]
  by_cases h : (colsB out).toNat / 2 ^ (p % 8) % 2 = 1
  · rw [if_pos h]
    have := flip_bits out p N hp
    unfold flipB flipBit at this
    rw [this, if_neg hne]
  · rw [if_neg h, set_same]
/-- No mend: laid as it was read. -/
theorem one_none (b x : List UInt8) (h : readR b = (x, -1, 0)) : layB x = b := by
  obtain ⟨o, ht, hl, hx, hout, hbk, hp⟩ := read_inv b x (-1) h
  have ho : o = none := by
    cases o with
    | none => rfl
    | some p => exfalso; unfold atR at ht; simp only at ht; omega
  subst ho
  have hlow : lowR b = withC x := hout
  refine bit_ext _ _ (by rw [layB_len, hl]) (fun N hN => ?_)
  rw [layB_len] at hN
  obtain ⟨h1, h2⟩ := layB_bits x (N / 2) (by omega)
  rw [← hlow, low_bits b (N / 2) (by omega) (by omega)] at h1 h2
  have hnb : bkN b (N / 2) = false := by cases e : bkN b (N / 2) with | false => rfl | true => exact absurd ((hbk (N / 2) (by omega)).1 e) (by simp)
  rw [bk_bits] at hnb
  have a := bitAt_or b (2 * (N / 2))
  have c := bitAt_or b (2 * (N / 2) + 1)
  rcases Nat.mod_two_eq_zero_or_one N with hm | hm
  · rw [show 2 * (N / 2) = N by omega] at h1; exact h1
  · rw [show 2 * (N / 2) + 1 = N by omega] at h2 hnb c
    rw [h2]
    rcases a with a | a <;> rcases c with c | c <;> rw [a, c] at hnb <;> rw [a, c] <;> revert hnb <;> decide
/-- One mend: one bit away, in the pair that is told. -/
theorem one_pair (b x : List UInt8) (p : Nat) (h : readR b = (x, (p : Int), 0)) : b.length = 2 * x.length + 2 ∧ x.length ≤ 4095 ∧ p < 4 * b.length ∧ (∀ M, M < 4 * b.length → apB (layB x) b (2 * M) + apB (layB x) b (2 * M + 1) = if M = p then 1 else 0) := by
  obtain ⟨o, ht, hl, hx, hout, hbk, hpl⟩ := read_inv b x p h
  have ho : o = some p := by
    cases o with
    | none => exfalso; unfold atR at ht; simp only at ht; omega
    | some p' => unfold atR at ht; simp only at ht; rw [show p' = p by omega]
  subst ho
  have hp := hpl p rfl
  refine ⟨hl, hx, hp, fun M hM => ?_⟩
  obtain ⟨h1, h2⟩ := layB_bits x M (by omega)
  have hlen : (lowR b).length = b.length / 2 := lowK_len _ _
  rw [apB_bits, apB_bits]
  have a := bitAt_or b (2 * M)
  have c := bitAt_or b (2 * M + 1)
  have hm := hbk M hM
  rw [bk_bits] at hm
  by_cases e : M = p
  · rw [if_pos e]
    have hbt := hm.2 (by rw [e])
    have d := bitAt_or (withC x) M
    rw [h1, h2]
    rcases a with a | a <;> rcases c with c | c <;> rcases d with d | d <;> rw [a, c] at hbt <;> rw [a, c, d] <;> revert hbt <;> decide
  · rw [if_neg e]
    have hbt : (bitAt b (2 * M) == bitAt b (2 * M + 1)) = false := by
      cases e2 : bitAt b (2 * M) == bitAt b (2 * M + 1) with
      | false => rfl
      | true => exact absurd (Option.some.inj (hm.1 e2)).symm e
    have hw : bitAt (withC x) M = bitAt b (2 * M) := by
      have : fixB (lowR b) p = withC x := hout
      rw [← this, fix_bits _ p M (by omega) e, low_bits b M (by omega) (by omega)]
    rw [h1, h2, hw]
    rcases a with a | a <;> rcases c with c | c <;> rw [a, c] at hbt <;> rw [a, c] <;> revert hbt <;> decide
theorem ap_pairs (a b : List UInt8) (p : Nat) : ∀ M, (∀ K, K < M → apB a b (2 * K) + apB a b (2 * K + 1) = if K = p then 1 else 0) → apTo a b (2 * M) = if p < M then 1 else 0
  | 0, _ => by rw [if_neg (by omega)]; rfl
  | M + 1, h => by
    rw [show 2 * (M + 1) = 2 * M + 1 + 1 by omega, apTo, apTo, ap_pairs a b p M (fun K hK => h K (by omega))]
    have h2 := h M (by omega)
    by_cases e : M = p
    · rw [if_pos e] at h2
      rw [if_neg (by omega), if_pos (by omega)]
      omega
    · rw [if_neg e] at h2
      by_cases e2 : p < M
      · rw [if_pos e2, if_pos (by omega)]; omega
      · rw [if_neg e2, if_neg (by omega)]; omega
/-- The bits of one byte alone. -/
theorem ap_byte (a b : List UInt8) (q : Nat) : ∀ k, k ≤ 8 → apTo a b (8 * q + k) = apTo a b (8 * q) + apTo [bt a q] [bt b q] k
  | 0, _ => rfl
  | k + 1, h => by
    rw [← Nat.add_assoc, apTo, apTo, ap_byte a b q k (by omega), Nat.add_assoc]
    congr 2
    unfold apB
    rw [show (8 * q + k) / 8 = q by omega, show (8 * q + k) % 8 = k by omega, show k / 8 = 0 by omega, show k % 8 = k by omega]
    rfl
theorem pair_nonzero (y k : Nat) (h : y / 2 ^ (2 * k) % 2 + y / 2 ^ (2 * k + 1) % 2 = 1) : y / 2 ^ (2 * k) % 4 ≠ 0 := by
  rw [Nat.pow_succ, ← Nat.div_div_eq_div_mul] at h
  omega
end Go.Proofs.YthmdfobkdaocaaaDoor
