/- Plain words on rails, bit by bit: what a laying is, what is read of it, of it with one bit turned, with two. -/
import Derived.Test.YtekbjcagjkcaiaaDoorRp
namespace Go.Proofs.YtekbjcagjkcaiaaDoor
set_option linter.unusedSimpArgs false
set_option linter.unusedVariables false
theorem bk_bits (l : List UInt8) (N : Nat) : bkN l N = (bitAt l (2 * N) == bitAt l (2 * N + 1)) := by
  unfold bkN bkB bitAt
  rw [show 2 * N / 8 = N / 4 by omega, show (2 * N + 1) / 8 = N / 4 by omega, show 2 * N % 8 = 2 * (N % 4) by omega, show (2 * N + 1) % 8 = 2 * (N % 4) + 1 by omega]
theorem nib_bits : ∀ b : Fin 256, ∀ k : Fin 4, nibN b.val / 2 ^ k.val % 2 = b.val / 2 ^ (2 * k.val) % 2 := by decide +kernel
theorem low_bits (l : List UInt8) (N : Nat) (hN : N < 4 * l.length) (he : l.length % 2 = 0) : bitAt (lowR l) N = bitAt l (2 * N) := by
  have hj : N / 8 < l.length / 2 := by omega
  unfold bitAt lowR lowK
  rw [bt_gen _ _ _ hj, lowF_nat, if_pos (by omega), if_pos (by omega)]
  have h1 := nibN_lt (bt l (2 * (N / 8))).toNat
  have h2 := nibN_lt (bt l (2 * (N / 8) + 1)).toNat
  by_cases hr : N % 8 < 4
  · have ht := nib_bits ⟨(bt l (2 * (N / 8))).toNat, (bt l (2 * (N / 8))).toNat_lt⟩ ⟨N % 8, hr⟩
    simp only at ht
    rw [show 2 * N / 8 = 2 * (N / 8) by omega, show 2 * N % 8 = 2 * (N % 8) by omega, ← ht]
    generalize nibN (bt l (2 * (N / 8))).toNat = x at *
    generalize nibN (bt l (2 * (N / 8) + 1)).toNat = y at *
    have : N % 8 = 0 ∨ N % 8 = 1 ∨ N % 8 = 2 ∨ N % 8 = 3 := by omega
    rcases this with e | e | e | e <;> rw [e] <;> simp only [Nat.pow_zero, Nat.div_one, show (2:Nat) ^ 1 = 2 from rfl, show (2:Nat) ^ 2 = 4 from rfl, show (2:Nat) ^ 3 = 8 from rfl] <;> omega
  · have ht := nib_bits ⟨(bt l (2 * (N / 8) + 1)).toNat, (bt l (2 * (N / 8) + 1)).toNat_lt⟩ ⟨N % 8 - 4, by omega⟩
    simp only at ht
    rw [show 2 * N / 8 = 2 * (N / 8) + 1 by omega, show 2 * N % 8 = 2 * (N % 8 - 4) by omega, ← ht]
    generalize nibN (bt l (2 * (N / 8))).toNat = x at *
    generalize nibN (bt l (2 * (N / 8) + 1)).toNat = y at *
    have : N % 8 = 4 ∨ N % 8 = 5 ∨ N % 8 = 6 ∨ N % 8 = 7 := by omega
    rcases this with e | e | e | e <;> rw [e] <;> simp only [Nat.sub_self, show 5 - 4 = 1 from rfl, show 6 - 4 = 2 from rfl, show 7 - 4 = 3 from rfl, Nat.pow_zero, Nat.div_one, show (2:Nat) ^ 1 = 2 from rfl, show (2:Nat) ^ 2 = 4 from rfl, show (2:Nat) ^ 3 = 8 from rfl, show (2:Nat) ^ 4 = 16 from rfl, show (2:Nat) ^ 5 = 32 from rfl, show (2:Nat) ^ 6 = 64 from rfl, show (2:Nat) ^ 7 = 128 from rfl] <;> omega
theorem spr_bits : ∀ x : Fin 16, ∀ k : Fin 4, sprT x.val / 2 ^ (2 * k.val) % 2 = x.val / 2 ^ k.val % 2 ∧ sprT x.val / 2 ^ (2 * k.val + 1) % 2 = 1 - x.val / 2 ^ k.val % 2 := by decide +kernel
theorem lay_bits (l : List UInt8) (N : Nat) (hN : N < 8 * l.length) : bitAt (layAll l) (2 * N) = bitAt l N ∧ bitAt (layAll l) (2 * N + 1) = 1 - bitAt l N := by
  obtain ⟨h1, h2⟩ := layAll_bt l (N / 8) (by omega)
  have hb := (bt l (N / 8)).toNat_lt
  by_cases hr : N % 8 < 4
  · obtain ⟨t1, t2⟩ := spr_bits ⟨(bt l (N / 8)).toNat % 16, Nat.mod_lt _ (by decide)⟩ ⟨N % 8, hr⟩
    simp only at t1 t2
    have e : (bt l (N / 8)).toNat % 16 / 2 ^ (N % 8) % 2 = bitAt l N := by
      unfold bitAt
      generalize (bt l (N / 8)).toNat = x at *
      have : N % 8 = 0 ∨ N % 8 = 1 ∨ N % 8 = 2 ∨ N % 8 = 3 := by omega
      rcases this with e | e | e | e <;> rw [e] <;> simp only [Nat.pow_zero, Nat.div_one, show (2:Nat) ^ 1 = 2 from rfl, show (2:Nat) ^ 2 = 4 from rfl, show (2:Nat) ^ 3 = 8 from rfl] <;> omega
    rw [e] at t1 t2
    rw [← sp4_nat, ← h1] at t1 t2
    constructor
    · rw [← t1]; unfold bitAt; rw [show 2 * N / 8 = 2 * (N / 8) by omega, show 2 * N % 8 = 2 * (N % 8) by omega]
    · rw [← t2]; unfold bitAt; rw [show (2 * N + 1) / 8 = 2 * (N / 8) by omega, show (2 * N + 1) % 8 = 2 * (N % 8) + 1 by omega]
  · obtain ⟨t1, t2⟩ := spr_bits ⟨(bt l (N / 8)).toNat / 16, by omega⟩ ⟨N % 8 - 4, by omega⟩
    simp only at t1 t2
    have e : (bt l (N / 8)).toNat / 16 / 2 ^ (N % 8 - 4) % 2 = bitAt l N := by
      unfold bitAt
      generalize (bt l (N / 8)).toNat = x at *
      have : N % 8 = 4 ∨ N % 8 = 5 ∨ N % 8 = 6 ∨ N % 8 = 7 := by omega
      rcases this with e | e | e | e <;> rw [e] <;> simp only [Nat.sub_self, show 5 - 4 = 1 from rfl, show 6 - 4 = 2 from rfl, show 7 - 4 = 3 from rfl, Nat.pow_zero, Nat.div_one, show (2:Nat) ^ 1 = 2 from rfl, show (2:Nat) ^ 2 = 4 from rfl, show (2:Nat) ^ 3 = 8 from rfl, show (2:Nat) ^ 4 = 16 from rfl, show (2:Nat) ^ 5 = 32 from rfl, show (2:Nat) ^ 6 = 64 from rfl, show (2:Nat) ^ 7 = 128 from rfl] <;> omega
    rw [e] at t1 t2
    rw [← sp4_nat, ← h2] at t1 t2
    constructor
    · rw [← t1]; unfold bitAt; rw [show 2 * N / 8 = 2 * (N / 8) + 1 by omega, show 2 * N % 8 = 2 * (N % 8 - 4) by omega]
    · rw [← t2]; unfold bitAt; rw [show (2 * N + 1) / 8 = 2 * (N / 8) + 1 by omega, show (2 * N + 1) % 8 = 2 * (N % 8 - 4) + 1 by omega]
theorem bit_ext (a b : List UInt8) (hl : a.length = b.length) (h : ∀ n, n < 8 * a.length → bitAt a n = bitAt b n) : a = b := by
  refine ext_bt hl (fun i hi => UInt8.toNat_inj.1 ?_)
  apply Nat.eq_of_testBit_eq
  intro j
  by_cases hj : j < 8
  · have := h (8 * i + j) (by omega)
    unfold bitAt at this
    rw [show (8 * i + j) / 8 = i by omega, show (8 * i + j) % 8 = j by omega, ← Nat.toNat_testBit, ← Nat.toNat_testBit] at this
    revert this
    cases (bt a i).toNat.testBit j <;> cases (bt b i).toNat.testBit j <;> decide
  · have hp : (2 : Nat) ^ 8 ≤ 2 ^ j := Nat.pow_le_pow_right (by decide) (by omega)
    rw [Nat.testBit_lt_two_pow (Nat.lt_of_lt_of_le (bt a i).toNat_lt hp), Nat.testBit_lt_two_pow (Nat.lt_of_lt_of_le (bt b i).toNat_lt hp)]
theorem flip_bits (l : List UInt8) (n m : Nat) (h : n / 8 < l.length) : bitAt (flipB l n) m = if m = n then 1 - bitAt l m else bitAt l m := by
  unfold bitAt flipB
  rw [bt_set l (n / 8) (m / 8) _ h]
  have hk : (2 : Nat) ^ (n % 8) < 256 := bit_lt _ (by omega)
  have hx : (flipBit (bt l (n / 8)) (n % 8)).toNat = (bt l (n / 8)).toNat ^^^ 2 ^ (n % 8) := by
    unfold flipBit
    rw [UInt8.toNat_xor, UInt8.toNat_ofNat_of_lt' (by show _ < 256; exact hk)]
  by_cases h1 : m / 8 = n / 8
  · rw [if_pos h1, hx, h1]
    have e1 : ∀ x : Nat, (x ^^^ 2 ^ (n % 8)) / 2 ^ (m % 8) % 2 = if m % 8 = n % 8 then 1 - x / 2 ^ (m % 8) % 2 else x / 2 ^ (m % 8) % 2 := by
      intro x
      have hb : ∀ y k : Nat, y / 2 ^ k % 2 = (y.testBit k).toNat := fun y k => (Nat.toNat_testBit y k).symm
      rw [hb, hb, Nat.testBit_xor, Nat.testBit_two_pow]
      by_cases h2 : m % 8 = n % 8
      · rw [if_pos h2, decide_eq_true h2.symm]
        cases x.testBit (m % 8) <;> rfl
      · rw [if_neg h2, decide_eq_false (fun h => h2 h.symm)]
        cases x.testBit (m % 8) <;> rfl
    rw [e1]
    by_cases h2 : m = n
    · rw [if_pos h2, if_pos (by omega)]
    · rw [if_neg h2, if_neg (by omega)]
  · rw [if_neg h1, if_neg (by rintro rfl; exact h1 rfl)]
theorem colsB_app (a b : List UInt8) : colsB (a ++ b) = colsB a ^^^ colsB b := by
  have key : ∀ (b : List UInt8) (x : UInt8), b.foldl (· ^^^ ·) x = x ^^^ b.foldl (· ^^^ ·) 0 := by
    intro b
    induction b with
    | nil => intro x; simp
    | cons c r ih => intro x; simp only [List.foldl_cons]; rw [ih, ih (0 ^^^ c), UInt8.zero_xor, UInt8.xor_assoc]
  unfold colsB
  rw [List.foldl_append, key]
theorem colsB_one (x : UInt8) : colsB [x] = x := by simp [colsB]
theorem split_at (l : List UInt8) (i : Nat) (hi : i < l.length) : l = l.take i ++ [bt l i] ++ l.drop (i + 1) := by
  rw [List.append_assoc, List.singleton_append, show bt l i = l[i] by simp [bt, hi], List.getElem_cons_drop, List.take_append_drop]
theorem colsB_set (l : List UInt8) (i : Nat) (x : UInt8) (hi : i < l.length) : colsB (l.set i x) = colsB l ^^^ bt l i ^^^ x := by
  have h2 : l.set i x = l.take i ++ [x] ++ l.drop (i + 1) := by
    rw [List.set_eq_take_append_cons_drop, if_pos hi, List.append_assoc]; rfl
  have h1 : colsB l = colsB (l.take i) ^^^ bt l i ^^^ colsB (l.drop (i + 1)) := by
    rw [← colsB_one (bt l i), ← colsB_app, ← colsB_app, ← split_at l i hi]
  rw [h2, colsB_app, colsB_app, colsB_one, h1]
  generalize colsB (l.take i) = a
  generalize colsB (l.drop (i + 1)) = c
  generalize bt l i = b
  rw [UInt8.xor_assoc a b c, UInt8.xor_comm b c, ← UInt8.xor_assoc a c b, UInt8.xor_assoc (a ^^^ c) b b, UInt8.xor_self, UInt8.xor_zero, UInt8.xor_assoc, UInt8.xor_comm x c, UInt8.xor_assoc]
theorem colsB_flip (l : List UInt8) (p : Nat) (h : p / 8 < l.length) : colsB (flipB l p) = colsB l ^^^ UInt8.ofNat (2 ^ (p % 8)) := by
  unfold flipB flipBit
  rw [colsB_set _ _ _ h]
  generalize UInt8.ofNat (2 ^ (p % 8)) = q
  rw [← UInt8.xor_assoc, UInt8.xor_assoc (colsB l), UInt8.xor_self, UInt8.xor_zero]
theorem colsB_with (l : List UInt8) : colsB (withC l) = 0 := by
  unfold withC
  rw [colsB_app, colsB_one, UInt8.xor_self]
theorem bit_ne_zero (k : Nat) (hk : k < 8) : UInt8.ofNat (2 ^ k) ≠ 0 := by
  intro h
  have := congrArg UInt8.toNat h
  rw [UInt8.toNat_ofNat_of_lt' (by exact bit_lt k hk)] at this
  have h2 := Nat.two_pow_pos k
  rw [show (0 : UInt8).toNat = 0 from rfl] at this
  omega
/-- How many are broken, if just these are. -/
theorem bc_none (l : List UInt8) : ∀ M, (∀ N, N < M → bkN l N = false) → bcN l M = 0
  | 0, _ => rfl
  | M + 1, h => by rw [bcN, bc_none l M (fun N hN => h N (by omega)), h M (by omega)]; rfl
theorem bc_some (l : List UInt8) (p : Nat) : ∀ M, (∀ N, N < M → (bkN l N = true ↔ N = p)) → bcN l M = if p < M then 1 else 0
  | 0, _ => by rw [if_neg (by omega)]; rfl
  | M + 1, h => by
    rw [bcN, bc_some l p M (fun N hN => h N (by omega))]
    have h2 := h M (by omega)
    by_cases e : M = p
    · subst e
      rw [h2.2 rfl, if_neg (show ¬ M < M by omega), if_pos (show M < M + 1 by omega)]
      rfl
    · have : bkN l M = false := by cases e2 : bkN l M with | false => rfl | true => exact absurd (h2.1 e2) e
      rw [this]
      by_cases e3 : p < M
      · rw [if_pos e3, if_pos (show p < M + 1 by omega)]; rfl
      · rw [if_neg e3, if_neg (show ¬ p < M + 1 by omega)]; rfl
theorem scan_of (l : List UInt8) (o : Option Nat) (k : Nat) (h : ∀ N, N < 4 * k → (bkN l N = true ↔ o = some N)) (hp : ∀ p, o = some p → p < 4 * k) : scanR l k = some o := by
  rcases o with _ | p
  · have hbc := bc_none l (4 * k) (fun N hN => by cases e : bkN l N with | false => rfl | true => exact absurd ((h N hN).1 e) (by simp))
    rcases scan_bc l k with ⟨o', h1, h2, h3, h4⟩ | ⟨h1, h2⟩
    · rw [h1]
      congr 1
      rcases o' with _ | p'
      · rfl
      · have := (h4 p' rfl).1; omega
    · omega
  · have hbc := bc_some l p (4 * k) (fun N hN => (h N hN).trans ⟨fun e => (Option.some.inj e).symm, fun e => by rw [e]⟩)
    rw [if_pos (hp p rfl)] at hbc
    rcases scan_bc l k with ⟨o', h1, h2, h3, h4⟩ | ⟨h1, h2⟩
    · rw [h1]
      congr 1
      rcases o' with _ | p'
      · have := h3 rfl; omega
      · obtain ⟨_, h6, h7⟩ := h4 p' rfl
        exact ((h p' h7).1 h6).symm
    · omega
theorem bc_two (l : List UInt8) (i j : Nat) (hi : bkN l i = true) (hj : bkN l j = true) (hne : i ≠ j) : ∀ M, (if i < M then 1 else 0) + (if j < M then 1 else 0) ≤ bcN l M
  | 0 => by simp
  | M + 1 => by
    have ih := bc_two l i j hi hj hne M
    rw [bcN]
    by_cases e1 : i = M
    · subst e1
      rw [hi, if_pos (by omega)]
      rw [if_neg (by omega)] at ih
      by_cases e2 : j < i
      · rw [if_pos e2] at ih; rw [if_pos (by omega)]; simp; omega
      · rw [if_neg (show ¬ j < i + 1 by omega)]; simp
    · by_cases e2 : j = M
      · subst e2
        rw [hj, if_pos (show j < j + 1 by omega)]
        rw [if_neg (show ¬ j < j by omega)] at ih
        by_cases e3 : i < j
        · rw [if_pos e3] at ih; rw [if_pos (by omega)]; simp; omega
        · rw [if_neg (show ¬ i < j + 1 by omega)]; simp
      · have a1 : (if i < M + 1 then 1 else 0) = (if i < M then 1 else 0) := by
          by_cases e3 : i < M
          · rw [if_pos e3, if_pos (by omega)]
          · rw [if_neg e3, if_neg (by omega)]
        have a2 : (if j < M + 1 then 1 else 0) = (if j < M then 1 else 0) := by
          by_cases e3 : j < M
          · rw [if_pos e3, if_pos (by omega)]
          · rw [if_neg e3, if_neg (by omega)]
        rw [a1, a2]; omega
theorem read_two (l : List UInt8) (i j : Nat) (h2 : 2 ≤ l.length) (he : l.length % 2 = 0) (h8 : l.length ≤ 8192) (hi : bkN l i = true) (hj : bkN l j = true) (hne : i ≠ j) (hi4 : i < 4 * l.length) (hj4 : j < 4 * l.length) : readR l = ([], 0, 30) := by
  have hbc := bc_two l i j hi hj hne (4 * l.length)
  rw [if_pos hi4, if_pos hj4] at hbc
  unfold readR
  rw [if_neg (by omega)]
  rcases scan_bc l l.length with ⟨o', h1, h2, h3, h4⟩ | ⟨h1, h2⟩
  · omega
  · rw [h1]; rfl
theorem read_one (l : List UInt8) (o : Option Nat) (h2 : 2 ≤ l.length) (he : l.length % 2 = 0) (h8 : l.length ≤ 8192) (h : ∀ N, N < 4 * l.length → (bkN l N = true ↔ o = some N)) (hp : ∀ p, o = some p → p < 4 * l.length) : readR l = endR l (some o) := by
  unfold readR
  rw [if_neg (by omega), scan_of l o l.length h hp]
theorem bitAt_or (l : List UInt8) (N : Nat) : bitAt l N = 0 ∨ bitAt l N = 1 := by have := bitAt_lt l N; omega
/-- A laying, and what is read of it. -/
theorem layB_bits (l : List UInt8) (N : Nat) (hN : N < 8 * (l.length + 1)) : bitAt (layB l) (2 * N) = bitAt (withC l) N ∧ bitAt (layB l) (2 * N + 1) = 1 - bitAt (withC l) N :=
  lay_bits (withC l) N (by rw [withC_len]; exact hN)
theorem layB_whole (l : List UInt8) (N : Nat) (hN : N < 8 * (l.length + 1)) : bkN (layB l) N = false := by
  rw [bk_bits, (layB_bits l N hN).1, (layB_bits l N hN).2]
  have := bitAt_or (withC l) N
  rcases this with h | h <;> rw [h] <;> rfl
theorem read_end (L l : List UInt8) (o : Option Nat) (hL : L.length = 2 * l.length + 2) (hout : outR L o = withC l) : endR L (some o) = (l, atR o, 0) := by
  simp only [endR]
  rw [hout, colsB_with, if_neg (by simp), hL, show (2 * l.length + 2) / 2 - 1 = l.length by omega]
  congr 1
  unfold withC
  exact List.take_left
theorem low_lay (L l : List UInt8) (hL : L.length = 2 * l.length + 2) (h : ∀ N, N < 8 * (l.length + 1) → bitAt L (2 * N) = bitAt (withC l) N) : lowR L = withC l := by
  have hlen : (lowR L).length = l.length + 1 := by unfold lowR; rw [lowK_len]; omega
  refine bit_ext _ _ (by rw [hlen, withC_len]) (fun n hn => ?_)
  rw [hlen] at hn
  rw [low_bits L n (by omega) (by omega)]
  exact h n hn
theorem read_lay (l : List UInt8) (hl : l.length ≤ 4095) : readR (layB l) = (l, -1, 0) := by
  have hL := layB_len l
  rw [read_one (layB l) none (by omega) (by omega) (by omega) (fun N hN => by rw [layB_whole l N (by omega)]; simp) (fun p h => by cases h)]
  exact read_end (layB l) l none hL (low_lay _ l hL (fun N hN => (layB_bits l N hN).1))
theorem read_flip (l : List UInt8) (i : Nat) (hl : l.length ≤ 4095) (hi : i < 8 * (2 * l.length + 2)) : readR (flipB (layB l) i) = (l, ((i / 2 : Nat) : Int), 0) := by
  have hL := layB_len l
  have hLf : (flipB (layB l) i).length = 2 * l.length + 2 := by rw [flipB_len, hL]
  have hib : i / 8 < (layB l).length := by omega
  have hb := fun m => flip_bits (layB l) i m hib
  have hbk : ∀ N, N < 8 * (l.length + 1) → (bkN (flipB (layB l) i) N = true ↔ some (i / 2) = some N) := fun N hN => by
    have h1 := layB_whole l N hN
    rw [bk_bits] at h1 ⊢
    rw [hb, hb]
    by_cases e : i / 2 = N
    · constructor
      · intro _; rw [e]
      · intro _
        rcases Nat.mod_two_eq_zero_or_one i with hm | hm
        · rw [if_pos (by omega), if_neg (by omega)]
          have a := bitAt_or (layB l) (2 * N)
          have b := bitAt_or (layB l) (2 * N + 1)
          rcases a with a | a <;> rcases b with b | b <;> rw [a, b] at h1 ⊢ <;> first | rfl | cases h1
        · rw [if_neg (by omega), if_pos (by omega)]
          have a := bitAt_or (layB l) (2 * N)
          have b := bitAt_or (layB l) (2 * N + 1)
          rcases a with a | a <;> rcases b with b | b <;> rw [a, b] at h1 ⊢ <;> first | rfl | cases h1
    · rw [if_neg (by omega), if_neg (by omega), h1]
      constructor
      · intro h; cases h
      · intro h; exact absurd (Option.some.inj h) e
  rw [read_one _ (some (i / 2)) (by omega) (by omega) (by omega) (fun N hN => hbk N (by omega)) (fun p h => by have := Option.some.inj h; omega)]
  refine read_end _ l (some (i / 2)) hLf ?_
  have hlow : lowR (flipB (layB l) i) = if i % 2 = 0 then flipB (withC l) (i / 2) else withC l := by
    by_cases hm : i % 2 = 0
    · rw [if_pos hm]
      have hlen : (lowR (flipB (layB l) i)).length = l.length + 1 := by unfold lowR; rw [lowK_len]; omega
      refine bit_ext _ _ (by rw [hlen, flipB_len, withC_len]) (fun n hn => ?_)
      rw [hlen] at hn
      rw [low_bits _ n (by omega) (by omega), hb, flip_bits _ _ _ (by rw [withC_len]; omega), (layB_bits l n hn).1]
      by_cases e : n = i / 2
      · rw [if_pos (by omega), if_pos e]
      · rw [if_neg (by omega), if_neg e]
    · rw [if_neg hm]
      refine low_lay _ l hLf (fun N hN => ?_)
      rw [hb, if_neg (by omega)]
      exact (layB_bits l N hN).1
  show fixB (lowR (flipB (layB l) i)) (i / 2) = withC l
  rw [hlow]
  have hw : i / 2 / 8 < (withC l).length := by rw [withC_len]; omega
  by_cases hm : i % 2 = 0
  · rw [if_pos hm]
    have hc : colsB (flipB (withC l) (i / 2)) = UInt8.ofNat (2 ^ (i / 2 % 8)) := by rw [colsB_flip _ _ hw, colsB_with, UInt8.zero_xor]
    have : fixB (flipB (withC l) (i / 2)) (i / 2) = flipB (flipB (withC l) (i / 2)) (i / 2) := by
      conv => rhs; unfold flipB
      unfold fixB flipBit
      rw [hc, UInt8.and_self]
      rfl
    rw [this, flip_twice _ _ hw]
  · rw [if_neg hm]
    unfold fixB
    rw [colsB_with, UInt8.zero_and, UInt8.xor_zero, set_same]
theorem read_flips (l : List UInt8) (i j : Nat) (hl : l.length ≤ 4095) (hi : i < 8 * (2 * l.length + 2)) (hj : j < 8 * (2 * l.length + 2)) (hne : i ≠ j) : readR (flipB (flipB (layB l) i) j) = ([], 0, 30) := by
  have hL := layB_len l
  have hL1 : (flipB (layB l) i).length = 2 * l.length + 2 := by rw [flipB_len, hL]
  have hL2 : (flipB (flipB (layB l) i) j).length = 2 * l.length + 2 := by rw [flipB_len, hL1]
  have hb : ∀ m, bitAt (flipB (flipB (layB l) i) j) m = if m = i ∨ m = j then 1 - bitAt (layB l) m else bitAt (layB l) m := fun m => by
    rw [flip_bits _ j m (by omega), flip_bits _ i m (by omega)]
    by_cases e1 : m = j
    · rw [if_pos e1, if_neg (by omega), if_pos (.inr e1)]
    · rw [if_neg e1]
      by_cases e2 : m = i
      · rw [if_pos e2, if_pos (.inl e2)]
      · rw [if_neg e2, if_neg (by omega)]
  have hbr : ∀ a b : Nat, (a = i ∧ b = j ∨ a = j ∧ b = i) → i / 2 ≠ j / 2 → a < 8 * (2 * l.length + 2) → bkN (flipB (flipB (layB l) i) j) (a / 2) = true := fun a b hab hne2 ha => by
    have h1 := layB_whole l (a / 2) (by omega)
    rw [bk_bits] at h1 ⊢
    rw [hb, hb]
    have x := bitAt_or (layB l) (2 * (a / 2))
    have y := bitAt_or (layB l) (2 * (a / 2) + 1)
    rcases Nat.mod_two_eq_zero_or_one a with hm | hm
    · rw [if_pos (by omega), if_neg (by omega)]
      rcases x with x | x <;> rcases y with y | y <;> rw [x, y] at h1 ⊢ <;> first | rfl | cases h1
    · rw [if_neg (by omega), if_pos (by omega)]
      rcases x with x | x <;> rcases y with y | y <;> rw [x, y] at h1 ⊢ <;> first | rfl | cases h1
  by_cases hp : i / 2 = j / 2
  · -- the same pair: it is whole again, but its bit is turned
    have hnb : ∀ N, N < 8 * (l.length + 1) → bkN (flipB (flipB (layB l) i) j) N = false := fun N hN => by
      have h1 := layB_whole l N hN
      rw [bk_bits] at h1 ⊢
      rw [hb, hb]
      have x := bitAt_or (layB l) (2 * N)
      have y := bitAt_or (layB l) (2 * N + 1)
      by_cases e : N = i / 2
      · rw [if_pos (by omega), if_pos (by omega)]
        rcases x with x | x <;> rcases y with y | y <;> rw [x, y] at h1 ⊢ <;> first | rfl | cases h1
      · rw [if_neg (by omega), if_neg (by omega)]; exact h1
    rw [read_one _ none (by omega) (by omega) (by omega) (fun N hN => by rw [hnb N (by omega)]; simp) (fun p h => by cases h)]
    have hlow : lowR (flipB (flipB (layB l) i) j) = flipB (withC l) (i / 2) := by
      have hlen : (lowR (flipB (flipB (layB l) i) j)).length = l.length + 1 := by unfold lowR; rw [lowK_len]; omega
      refine bit_ext _ _ (by rw [hlen, flipB_len, withC_len]) (fun n hn => ?_)
      rw [hlen] at hn
      rw [low_bits _ n (by omega) (by omega), hb, flip_bits _ _ _ (by rw [withC_len]; omega), (layB_bits l n hn).1]
      by_cases e : n = i / 2
      · rw [if_pos (by omega), if_pos e]
      · rw [if_neg (by omega), if_neg e]
    have hout : colsB (outR (flipB (flipB (layB l) i) j) none) ≠ 0 := by
      show colsB (lowR (flipB (flipB (layB l) i) j)) ≠ 0
      rw [hlow, colsB_flip _ _ (by rw [withC_len]; omega), colsB_with, UInt8.zero_xor]
      exact bit_ne_zero _ (by omega)
    simp only [endR]
    rw [if_pos hout]
  · exact read_two _ (i / 2) (j / 2) (by omega) (by omega) (by omega) (hbr i j (.inl ⟨rfl, rfl⟩) hp hi) (hbr j i (.inr ⟨rfl, rfl⟩) hp hj) hp (by omega) (by omega)
end Go.Proofs.YtekbjcagjkcaiaaDoor
