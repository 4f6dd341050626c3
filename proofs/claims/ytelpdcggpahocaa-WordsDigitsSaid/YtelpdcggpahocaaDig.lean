/- Plain words on digits: what Hex and Unhex answer, there and back. No program, no memory. -/
import Derived.Test.YtelpdcggpahocaaSpec
namespace Go.Proofs.Ytelpdcggpahocaa
set_option linter.unusedSimpArgs false

/-- The digit of a number below 16; the worth of a digit (16: it is none). -/
def hexc (d : Nat) : UInt8 := UInt8.ofNat (if d < 10 then 48 + d else 87 + d)
def digN (c : UInt8) : Nat := if 48 ≤ c.toNat ∧ c.toNat ≤ 57 then c.toNat - 48 else if 97 ≤ c.toNat ∧ c.toNat ≤ 102 then c.toNat - 87 else 16
theorem hexc_val (d : Nat) (h : d < 16) : (hexc d).toNat = if d < 10 then 48 + d else 87 + d := by
  unfold hexc
  rw [UInt8.toNat_ofNat_of_lt' (by show _ < 256; split <;> omega)]
theorem digN_hexc (d : Nat) (h : d < 16) : digN (hexc d) = d := by
  have e := hexc_val d h
  unfold digN
  rw [e]
  by_cases hd : d < 10
  · rw [if_pos hd, if_pos (by omega)]; omega
  · rw [if_neg hd, if_neg (by omega), if_pos (by omega)]; omega
theorem hexc_digN (c : UInt8) (h : digN c < 16) : hexc (digN c) = c := by
  apply UInt8.toNat_inj.mp
  rw [hexc_val _ h]
  revert h
  unfold digN
  intro h
  split at h
  · rename_i h1
    simp only [h1, and_self, if_true]
    split <;> omega
  · split at h
    · rename_i h1 h2
      simp only [h1, h2, and_self, if_true, if_false]
      split <;> omega
    · omega
def hexB (l : List UInt8) (i : Nat) : UInt8 := if i % 2 = 0 then hexc ((bt l (i / 2)).toNat / 16) else hexc ((bt l (i / 2)).toNat % 16)
theorem hexB_even (l : List UInt8) (k : Nat) : hexB l (2 * k) = hexc ((bt l k).toNat / 16) := by
  unfold hexB
  rw [if_pos (by omega), show 2 * k / 2 = k from by omega]
theorem hexB_odd (l : List UInt8) (k : Nat) : hexB l (2 * k + 1) = hexc ((bt l k).toNat % 16) := by
  unfold hexB
  rw [if_neg (by omega), show (2 * k + 1) / 2 = k from by omega]
/-- What Hex answers. -/
def hexR (l : List UInt8) : List UInt8 := gen (hexB l) (2 * l.length)
theorem hexR_len (l : List UInt8) : (hexR l).length = 2 * l.length := gen_len _ _

/-- Are these the digits of bytes? -/
def dgOk (s : List UInt8) : Bool := s.length % 2 == 0 && s.all (fun c => decide (digN c < 16))
theorem dgOk_iff (s : List UInt8) : dgOk s = true ↔ s.length % 2 = 0 ∧ ∀ i, i < s.length → digN (bt s i) < 16 := by
  unfold dgOk
  simp only [Bool.and_eq_true, beq_iff_eq, List.all_eq_true, decide_eq_true_eq]
  constructor
  · rintro ⟨h1, h2⟩
    refine ⟨h1, fun i hi => ?_⟩
    have := h2 s[i] (List.getElem_mem hi)
    simpa [bt, hi] using this
  · rintro ⟨h1, h2⟩
    refine ⟨h1, fun x hx => ?_⟩
    obtain ⟨i, hi, rfl⟩ := List.getElem_of_mem hx
    have := h2 i hi
    simpa [bt, hi] using this
def unB (s : List UInt8) (j : Nat) : UInt8 := UInt8.ofNat (16 * digN (bt s (2 * j)) + digN (bt s (2 * j + 1)))
/-- What Unhex answers: the bytes, the error. -/
def unR (s : List UInt8) : List UInt8 := if dgOk s = true then gen (unB s) (s.length / 2) else []
def unE (s : List UInt8) : Int := if dgOk s = true then 0 else 12
theorem unR_len (s : List UInt8) : (unR s).length ≤ s.length / 2 := by
  unfold unR
  split
  · rw [gen_len]; exact Nat.le_refl _
  · exact Nat.zero_le _
theorem bad_odd (s : List UInt8) (h : s.length % 2 = 1) : dgOk s = false := by
  cases e : dgOk s with
  | false => rfl
  | true => have := ((dgOk_iff s).mp e).1; omega
theorem bad_at (s : List UInt8) (i : Nat) (hi : i < s.length) (h : ¬ digN (bt s i) < 16) : dgOk s = false := by
  cases e : dgOk s with
  | false => rfl
  | true => exact absurd (((dgOk_iff s).mp e).2 i hi) h
theorem good_all (s : List UInt8) (h0 : s.length % 2 = 0) (h : ∀ i, i < s.length → digN (bt s i) < 16) : dgOk s = true := (dgOk_iff s).mpr ⟨h0, h⟩

theorem un_hex (l : List UInt8) : dgOk (hexR l) = true ∧ unR (hexR l) = l := by
  have hb : ∀ i, i < 2 * l.length → bt (hexR l) i = hexB l i := fun i hi => bt_gen _ _ _ hi
  have hok : dgOk (hexR l) = true := by
    refine (dgOk_iff _).mpr ⟨by rw [hexR_len]; omega, fun i hi => ?_⟩
    rw [hexR_len] at hi
    rw [hb i hi]
    have hl := (bt l (i / 2)).toNat_lt
    unfold hexB
    split
    · rw [digN_hexc _ (by omega)]; omega
    · rw [digN_hexc _ (by omega)]; omega
  refine ⟨hok, ?_⟩
  unfold unR
  rw [if_pos hok, hexR_len, show 2 * l.length / 2 = l.length from by omega]
  refine Eq.trans (gen_congr fun i hi => ?_) (gen_bt l)
  unfold unB
  have hl := (bt l i).toNat_lt
  rw [hb _ (by omega), hb _ (by omega), hexB_even, hexB_odd, digN_hexc _ (by omega), digN_hexc _ (by omega), Nat.div_add_mod]
  simp
theorem hex_un (s : List UInt8) (h : dgOk s = true) : hexR (unR s) = s := by
  obtain ⟨h0, hd⟩ := (dgOk_iff s).mp h
  have hul : (unR s).length = s.length / 2 := by unfold unR; rw [if_pos h, gen_len]
  unfold hexR
  rw [hul, show 2 * (s.length / 2) = s.length from by omega]
  refine Eq.trans (gen_congr fun i hi => ?_) (gen_bt s)
  have hu : bt (unR s) (i / 2) = unB s (i / 2) := by unfold unR; rw [if_pos h]; exact bt_gen _ _ _ (by omega)
  unfold hexB
  rw [hu]
  have h1 := hd (2 * (i / 2)) (by omega)
  have h2 := hd (2 * (i / 2) + 1) (by omega)
  have hv : (unB s (i / 2)).toNat = 16 * digN (bt s (2 * (i / 2))) + digN (bt s (2 * (i / 2) + 1)) := by
    unfold unB
    rw [UInt8.toNat_ofNat_of_lt' (by show _ < 256; omega)]
  rw [hv]
  split
  · rw [show (16 * digN (bt s (2 * (i / 2))) + digN (bt s (2 * (i / 2) + 1))) / 16 = digN (bt s (2 * (i / 2))) from by omega, hexc_digN _ h1, show 2 * (i / 2) = i from by omega]
  · rw [show (16 * digN (bt s (2 * (i / 2))) + digN (bt s (2 * (i / 2) + 1))) % 16 = digN (bt s (2 * (i / 2) + 1)) from by omega, hexc_digN _ h2, show 2 * (i / 2) + 1 = i from by omega]

/-- The bytes of Unhex when i digits are read. -/
def halfB (s : List UInt8) (i j : Nat) : UInt8 := if 2 * j + 1 < i then unB s j else if 2 * j < i then UInt8.ofNat (digN (bt s (2 * j))) else 0
def half (s : List UInt8) (i m : Nat) : List UInt8 := gen (halfB s i) m
theorem half_len (s : List UInt8) (i m : Nat) : (half s i m).length = m := gen_len _ _
theorem half_zero (s : List UInt8) (m : Nat) : half s 0 m = List.replicate m 0 := by
  apply List.ext_getElem
  · simp [half, gen]
  · intro i h1 h2
    simp [half, gen, halfB]
theorem half_set (s : List UInt8) (i m : Nat) : (half s i m).set (i / 2) (halfB s (i + 1) (i / 2)) = half s (i + 1) m := by
  apply List.ext_getElem
  · simp [half, gen]
  · intro j h1 h2
    simp only [half, gen, List.getElem_set, List.getElem_map, List.getElem_range]
    split
    · rename_i e
      rw [e]
    · rename_i e
      unfold halfB
      by_cases h3 : 2 * j + 1 < i
      · rw [if_pos h3, if_pos (by omega)]
      · have h4 : ¬ 2 * j < i := by omega
        rw [if_neg h3, if_neg h4, if_neg (by omega), if_neg (by omega)]
theorem half_all (s : List UInt8) (n : Nat) (hl : s.length = n) (h0 : dgOk s = true) : half s n (n / 2) = unR s := by
  subst hl
  unfold unR half
  rw [if_pos h0]
  refine gen_congr fun i hi => ?_
  unfold halfB
  rw [if_pos (by omega)]
theorem half_get (s : List UInt8) (i m : Nat) (h : i / 2 < m) : bt (half s i m) (i / 2) = halfB s i (i / 2) := bt_gen _ _ _ h
theorem half_bits (s : List UInt8) (i : Nat) (hp : ∀ j, j ≤ i → digN (bt s j) < 16) :
    Go.bits .or .u8 (IntKind.u8.wrap (((halfB s i (i / 2)).toNat : Int) * 16)) ((digN (bt s i) : Nat) : Int) = ((halfB s (i + 1) (i / 2)).toNat : Int) := by
  have hi := hp i (Nat.le_refl _)
  rcases Nat.mod_two_eq_zero_or_one i with h | h
  · have e1 : halfB s i (i / 2) = 0 := by unfold halfB; rw [if_neg (by omega), if_neg (by omega)]
    have e2 : halfB s (i + 1) (i / 2) = UInt8.ofNat (digN (bt s i)) := by unfold halfB; rw [if_neg (by omega), if_pos (by omega), show 2 * (i / 2) = i from by omega]
    rw [e1, e2, UInt8.toNat_ofNat_of_lt' (by show _ < 256; omega)]
    have : IntKind.u8.wrap (((0 : UInt8).toNat : Int) * 16) = ((0 : Nat) : Int) := by decide
    rw [this, u8_or_nat _ _ (by decide) (by omega), Nat.zero_or]
  · have h1 := hp (i - 1) (by omega)
    have e1 : halfB s i (i / 2) = UInt8.ofNat (digN (bt s (i - 1))) := by unfold halfB; rw [if_neg (by omega), if_pos (by omega), show 2 * (i / 2) = i - 1 from by omega]
    have e2 : halfB s (i + 1) (i / 2) = UInt8.ofNat (16 * digN (bt s (i - 1)) + digN (bt s i)) := by
      unfold halfB
      rw [if_pos (by omega)]
      unfold unB
      rw [show 2 * (i / 2) = i - 1 from by omega, show i - 1 + 1 = i from by omega]
    rw [e1, e2, UInt8.toNat_ofNat_of_lt' (by show _ < 256; omega), UInt8.toNat_ofNat_of_lt' (by show _ < 256; omega)]
    have : IntKind.u8.wrap (((digN (bt s (i - 1)) : Nat) : Int) * 16) = ((digN (bt s (i - 1)) * 16 : Nat) : Int) := by
      rw [IntKind.wrap_u8']; omega
    rw [this, u8_or_nat _ _ (by omega) (by omega), nat_join 4 _ _ (by show _ % 16 = 0; omega) (by show _ < 16; omega)]
    omega
end Go.Proofs.Ytelpdcggpahocaa
