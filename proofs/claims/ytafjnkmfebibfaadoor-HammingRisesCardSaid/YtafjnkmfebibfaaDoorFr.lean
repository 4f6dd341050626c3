/- Plain words on what only rises (HammingRises). -/
import Derived.Test.YtafjnkmfebibfaaDoorFn
namespace Go.Proofs.YtafjnkmfebibfaaDoor
set_option linter.unusedSimpArgs false
set_option linter.unusedVariables false
/-- The bit n of a sector and its sum. -/
def cb (l : List UInt8) (g n : Nat) : Nat := if n < 2048 then bitAt l n else g / 2 ^ (n - 2048) % 2
theorem cb_lt (l : List UInt8) (g n : Nat) : cb l g n < 2 := by unfold cb; split; exact bitAt_lt _ _; exact Nat.mod_lt _ (by decide)
/-- How many of the first bits are 0. -/
def zf (f : Nat → Nat) : Nat → Nat
  | 0 => 0
  | n + 1 => zf f n + (1 - f n)
theorem zf_congr {f h : Nat → Nat} : ∀ N, (∀ n, n < N → f n = h n) → zf f N = zf h N
  | 0, _ => rfl
  | n + 1, hh => by rw [zf, zf, zf_congr n (fun k hk => hh k (by omega)), hh n (by omega)]
theorem zf_add (f : Nat → Nat) (a : Nat) : ∀ b, zf f (a + b) = zf f a + zf (fun n => f (a + n)) b
  | 0 => rfl
  | b + 1 => by rw [← Nat.add_assoc, zf, zf, zf_add f a b]; omega
theorem zc_zf (l : List UInt8) : ∀ n, zc l n = zf (bitAt l) n
  | 0 => rfl
  | n + 1 => by rw [zc, zf, zc_zf l n]
theorem zf_cb (l lq : List UInt8) : zf (cb l (num3 lq)) 2072 = zc l 2048 + zc lq 24 := by
  have h1 : zf (cb l (num3 lq)) 2048 = zf (bitAt l) 2048 := zf_congr _ (fun n hn => if_pos hn)
  have h2 : zf (fun n => cb l (num3 lq) (2048 + n)) 24 = zf (bitAt lq) 24 := zf_congr _ (fun n hn => by
    show cb l (num3 lq) (2048 + n) = _
    unfold cb
    rw [if_neg (by omega), Nat.add_sub_cancel_left, num3_bit lq n hn])
  rw [show 2072 = 2048 + 24 from rfl, zf_add, zc_zf, zc_zf, h1, h2]
/-- In how many places two differ. -/
def df (f h : Nat → Nat) : Nat → Nat
  | 0 => 0
  | n + 1 => df f h n + (if f n = h n then 0 else 1)
theorem zf_rise (f F : Nat → Nat) (hf : ∀ n, f n ≤ F n) (hF : ∀ n, F n < 2) : ∀ N, zf f N = zf F N + df f F N
  | 0 => rfl
  | n + 1 => by
    rw [zf, zf, df, zf_rise f F hf hF n]
    have h1 := hf n
    have h2 := hF n
    by_cases e : f n = F n
    · rw [if_pos e, e]; omega
    · rw [if_neg e]; omega
theorem zf_near (F h : Nat → Nat) (M : Nat) (hF : ∀ n, F n < 2) : ∀ N, (∀ n, n < N → n ≠ M → h n = F n) → zf h N ≤ zf F N + (if M < N then 1 else 0)
  | 0, _ => Nat.zero_le _
  | n + 1, hh => by
    rw [zf, zf]
    have ih := zf_near F h M hF n (fun k hk => hh k (by omega))
    by_cases e : n = M
    · subst e
      rw [if_neg (by omega)] at ih
      rw [if_pos (by omega)]
      omega
    · rw [hh n (by omega) e]
      by_cases e2 : M < n
      · rw [if_pos e2] at ih; rw [if_pos (by omega)]; omega
      · rw [if_neg e2] at ih; rw [if_neg (by omega)]; omega
theorem df_zero (f h : Nat → Nat) : ∀ N, df f h N = 0 → ∀ n, n < N → f n = h n
  | 0, _, n, hn => by omega
  | N + 1, hd, n, hn => by
    rw [df] at hd
    by_cases e : f N = h N
    · by_cases e2 : n = N
      · rw [e2]; exact e
      · exact df_zero f h N (by omega) n (by omega)
    · rw [if_neg e] at hd; omega
theorem df_one (f h : Nat → Nat) : ∀ N, df f h N = 1 → ∃ i, i < N ∧ f i ≠ h i ∧ ∀ n, n < N → n ≠ i → f n = h n
  | 0, hd => by cases hd
  | N + 1, hd => by
    rw [df] at hd
    by_cases e : f N = h N
    · rw [if_pos e] at hd
      obtain ⟨i, hi, hne, hall⟩ := df_one f h N (by omega)
      refine ⟨i, by omega, hne, fun n hn hni => ?_⟩
      by_cases e2 : n = N
      · rw [e2]; exact e
      · exact hall n (by omega) hni
    · rw [if_neg e] at hd
      have hz := df_zero f h N (by omega)
      exact ⟨N, by omega, e, fun n hn hni => hz n (by omega)⟩
theorem ext_num (x y : Nat) (hx : x < 16777216) (hy : y < 16777216) (h : ∀ n, n < 24 → x / 2 ^ n % 2 = y / 2 ^ n % 2) : x = y := by
  apply Nat.eq_of_testBit_eq
  intro j
  by_cases hj : j < 24
  · have := h j hj
    rw [← Nat.toNat_testBit, ← Nat.toNat_testBit] at this
    revert this
    cases x.testBit j <;> cases y.testBit j <;> decide
  · have hp : (2 : Nat) ^ 24 ≤ 2 ^ j := Nat.pow_le_pow_right (by decide) (by omega)
    rw [Nat.testBit_lt_two_pow (Nat.lt_of_lt_of_le hx hp), Nat.testBit_lt_two_pow (Nat.lt_of_lt_of_le hy hp)]
theorem ext_bits (a b : List UInt8) (ha : a.length = 256) (hb : b.length = 256) (h : ∀ n, n < 2048 → bitAt a n = bitAt b n) : a = b := by
  refine ext_bt (by rw [ha, hb]) (fun i hi => UInt8.toNat_inj.1 ?_)
  apply Nat.eq_of_testBit_eq
  intro j
  by_cases hj : j < 8
  · have := h (8 * i + j) (by omega)
    unfold bitAt at this
    rw [show (8 * i + j) / 8 = i by omega, show (8 * i + j) % 8 = j by omega, ← Nat.toNat_testBit, ← Nat.toNat_testBit] at this
    revert this
    cases (bt a i).toNat.testBit j <;> cases (bt b i).toNat.testBit j <;> decide
  · have hp : (2 : Nat) ^ 8 ≤ 2 ^ j := Nat.pow_le_pow_right (by decide) (by omega)
    rw [Nat.testBit_lt_two_pow (Nat.lt_of_lt_of_le (bt a i).toNat_lt hp), Nat.testBit_lt_two_pow (Nat.lt_of_lt_of_le (bt b i).toNat_lt hp)]
theorem cb_ext (a b : List UInt8) (x y : Nat) (ha : a.length = 256) (hb : b.length = 256) (hx : x < 16777216) (hy : y < 16777216) (h : ∀ n, n < 2072 → cb a x n = cb b y n) : a = b ∧ x = y := by
  refine ⟨ext_bits a b ha hb fun n hn => ?_, ext_num x y hx hy fun n hn => ?_⟩
  · have := h n (by omega)
    unfold cb at this
    rwa [if_pos hn, if_pos hn] at this
  · have := h (2048 + n) (by omega)
    unfold cb at this
    rwa [if_neg (by omega), if_neg (by omega), Nat.add_sub_cancel_left] at this
theorem cb_turn (l : List UInt8) (g i n : Nat) (hl : l.length = 256) (hg : g < 16777216) (hi : i < 2072) (hn : n < 2072) : cb (turnL l i) (turnG g i) n = if n = i then 1 - cb l g n else cb l g n := by
  unfold cb turnL turnG
  by_cases h1 : n < 2048
  · rw [if_pos h1, if_pos h1]
    by_cases h2 : i < 2048
    · rw [if_pos h2, bitAt_flip l i n (by omega)]
    · rw [if_neg h2, if_neg (by omega)]
  · rw [if_neg h1, if_neg h1]
    by_cases h2 : i < 2048
    · rw [if_pos h2, if_neg (by omega)]
    · rw [if_neg h2, ← Nat.toNat_testBit, ← Nat.toNat_testBit, Nat.testBit_xor, Nat.testBit_two_pow]
      by_cases h3 : n = i
      · rw [if_pos h3, h3, decide_eq_true rfl]
        cases g.testBit (i - 2048) <;> rfl
      · rw [if_neg h3, decide_eq_false (by omega), Bool.xor_false]
/-- What Fix tells of a sector and its sum of which some bits have risen. -/
def RisT (l L : List UInt8) (g T : Nat) (l' : List UInt8) (g' : Nat) (k e : Int) : Prop :=
  (e = 21 ∧ ¬ (L = l ∧ T = g) ∧ l' = [] ∧ g' = 0) ∨
  (e = 0 ∧ l' = l ∧ g' = g ∧ -1 ≤ k) ∨
  (e = 0 ∧ ¬ (l' = l ∧ g' = g) ∧ l'.length = 256 ∧ zf (cb l' g') 2072 < zf (cb l g) 2072)
theorem rises (l L : List UInt8) (T : Nat) (hl : l.length = 256) (hL : L.length = 256) (hT : T < 16777216) (hup : ∀ n, cb l (sumN l) n ≤ cb L T n) :
    ∃ l' g' k e, FixIs L T l' g' k e ∧ g' < 16777216 ∧ RisT l L (sumN l) T l' g' k e := by
  have hg := sumN_lt l
  have hz := zf_rise _ _ hup (cb_lt L T) 2072
  by_cases h0 : df (cb l (sumN l)) (cb L T) 2072 = 0
  · have h1 := df_zero _ _ _ h0
    obtain ⟨e1, e2⟩ := cb_ext l L (sumN l) T hl hL hg hT h1
    subst e1
    subst e2
    exact ⟨l, sumN l, -1, 0, fix_same l, hg, .inr (.inl ⟨rfl, rfl, rfl, by omega⟩)⟩
  · by_cases h2 : df (cb l (sumN l)) (cb L T) 2072 = 1
    · obtain ⟨i, hi, hne, hall⟩ := df_one _ _ _ h2
      obtain ⟨e1, e2⟩ := cb_ext (turnL l i) L (turnG (sumN l) i) T (by rw [turnL_len]; exact hl) hL (turnG_lt _ _ hg hi) hT (fun n hn => by
        rw [cb_turn l _ i n hl hg hi hn]
        by_cases e : n = i
        · rw [if_pos e, e]
          have a1 := hup i
          have a2 := cb_lt L T i
          omega
        · rw [if_neg e]; exact hall n hn e)
      subst e1
      subst e2
      exact ⟨l, sumN l, i, 0, fix_one l i hl hi, hg, .inr (.inl ⟨rfl, rfl, rfl, by omega⟩)⟩
    · obtain ⟨l', g', k, e, hF⟩ := fix_total L T hT
      have hne : ¬ (L = l ∧ T = sumN l) := by
        rintro ⟨rfl, rfl⟩
        apply h0
        have : ∀ N, df (cb L (sumN L)) (cb L (sumN L)) N = 0 := by
          intro N
          induction N with
          | zero => rfl
          | succ n ih => rw [df, ih, if_pos rfl]
        exact this _
      rcases fix_near L T l' g' k e hL hF with ⟨he, _, h3, _, h4⟩ | ⟨he, h3, h4, M, hM, h5, h6⟩
      · subst h4
        exact ⟨l', 0, k, e, hF, by decide, .inl ⟨he, hne, h3, rfl⟩⟩
      · have hg' : g' < 16777216 := by rw [← h3]; exact sumN_lt l'
        have hn := zf_near (cb L T) (cb l' g') M (cb_lt L T) 2072 (fun n hn hnM => by
          unfold cb
          by_cases h7 : n < 2048
          · rw [if_pos h7, if_pos h7]; exact (h5 n h7).2 hnM
          · rw [if_neg h7, if_neg h7]; exact (h6 (n - 2048) (by omega)).2 (by omega))
        have hlt : zf (cb l' g') 2072 < zf (cb l (sumN l)) 2072 := by
          have : (if M < 2072 then 1 else 0) ≤ 1 := by split <;> omega
          omega
        exact ⟨l', g', k, e, hF, hg', .inr (.inr ⟨he, fun ⟨a1, a2⟩ => by rw [a1, a2] at hlt; omega, h4, hlt⟩)⟩
theorem tb_or_le (a b j : Nat) : (a.testBit j).toNat ≤ ((a ||| b).testBit j).toNat := by
  rw [Nat.testBit_or]
  cases a.testBit j <;> cases b.testBit j <;> decide
theorem bitAt_rise (l mask : List UInt8) (fill : UInt8) (n : Nat) : bitAt l n ≤ bitAt (riseR l mask fill) n := by
  unfold bitAt
  by_cases h : n / 8 < l.length
  · unfold riseR
    rw [bt_gen _ _ _ h, ← Nat.toNat_testBit, ← Nat.toNat_testBit]
    unfold riseB
    rw [UInt8.toNat_or]
    exact tb_or_le _ _ _
  · have : bt l (n / 8) = 0 := by unfold bt; rw [List.getD_eq_getElem?_getD, List.getElem?_eq_none (by omega)]; rfl
    rw [this]
    simp
theorem riseR_len (l mask : List UInt8) (fill : UInt8) : (riseR l mask fill).length = l.length := gen_len _ _
/-- A sector and its sum with bits that rose. -/
theorem cb_rise (l lq m1 m2 : List UInt8) (h3 : lq.length = 3) (n : Nat) : cb l (num3 lq) n ≤ cb (riseR l m1 0) (num3 (riseR lq m2 0)) n := by
  unfold cb
  by_cases h1 : n < 2048
  · rw [if_pos h1, if_pos h1]; exact bitAt_rise _ _ _ _
  · rw [if_neg h1, if_neg h1]
    by_cases h2 : n - 2048 < 24
    · rw [← num3_bit lq _ h2, ← num3_bit _ _ h2]; exact bitAt_rise _ _ _ _
    · have hp : (2 : Nat) ^ 24 ≤ 2 ^ (n - 2048) := Nat.pow_le_pow_right (by decide) (by omega)
      rw [Nat.div_eq_of_lt (Nat.lt_of_lt_of_le (num3_lt lq) hp)]
      exact Nat.zero_le _
/-- Written over up to the end of the mask: the whole of it. -/
theorem upd_rise (l mask : List UInt8) (k : Nat) (hk : k ≤ l.length) (hm : mask.length ≤ k ∨ k = l.length) : upd (riseB l mask 0) l k = riseR l mask 0 := by
  refine ext_bt (by rw [upd_len _ _ _ hk, riseR_len]) (fun i hi => ?_)
  rw [upd_len _ _ _ hk] at hi
  unfold riseR
  rw [bt_gen _ _ _ hi]
  by_cases h1 : i < k
  · unfold upd bt
    rw [List.getD_eq_getElem?_getD, List.getElem?_append_left (by rw [gen_len]; exact h1)]
    have := bt_gen (riseB l mask 0) k i h1
    unfold bt at this
    rw [List.getD_eq_getElem?_getD] at this
    exact this
  · rcases hm with hm | hm
    · unfold upd bt
      rw [List.getD_eq_getElem?_getD, List.getElem?_append_right (by rw [gen_len]; omega), gen_len, List.getElem?_drop]
      unfold riseB mk
      rw [if_neg (by omega)]
      have e0 : bt l i ||| 0 = bt l i := by rw [UInt8.or_zero]
      rw [e0, show k + (i - k) = i by omega]
      unfold bt
      rw [List.getD_eq_getElem?_getD]
    · omega
end Go.Proofs.YtafjnkmfebibfaaDoor
