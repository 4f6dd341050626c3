/- The law WordsOneWay: its plain part. -/
import Derived.Test.YtelpdcggpahocaaLw2
namespace Go.Proofs.Ytelpdcggpahocaa
set_option linter.unusedVariables false
set_option linter.unusedSimpArgs false
def onesL (n : Nat) : List UInt8 := gen (fun _ => 255) n
theorem onesL_len (n : Nat) : (onesL n).length = n := gen_len _ _
theorem onesL_succ (n : Nat) : onesL (n + 1) = onesL n ++ [255] := gen_succ _ _
theorem bt_onesL (n i : Nat) (h : i < n) : bt (onesL n) i = 255 := bt_gen _ _ _ h
theorem u8ext (a b : UInt8) (h : ∀ (i : Nat) (hi : i < 8), a.toBitVec[i] = b.toBitVec[i]) : a = b := by
  apply UInt8.toBitVec_inj.mp
  apply BitVec.eq_of_getElem_eq
  intro i hi
  exact h i hi
theorem u8_fall0 (o w m : UInt8) : (o &&& (w ||| ~~~m)) &&& ~~~o = 0 := by
  apply u8ext
  intro i hi
  simp
  intro h _
  exact h
theorem u8_rise0 (o m : UInt8) : o &&& ~~~(o ||| m) = 0 := by
  apply u8ext
  intro i hi
  simp
  intro h h2
  rw [h] at h2
  cases h2
theorem u8_255_and (a : UInt8) : 255 &&& a = a := by
  apply UInt8.toBitVec_inj.mp
  rw [UInt8.toBitVec_and, show (255 : UInt8).toBitVec = BitVec.allOnes 8 from by decide, BitVec.allOnes_and]
theorem u8_or_255 (a : UInt8) : a ||| 255 = 255 := by
  apply UInt8.toBitVec_inj.mp
  rw [UInt8.toBitVec_or, show (255 : UInt8).toBitVec = BitVec.allOnes 8 from by decide, BitVec.or_allOnes]
theorem u8_and_255 (a : UInt8) : a &&& 255 = a := by rw [UInt8.and_comm]; exact u8_255_and a
theorem u8_or_0 (a : UInt8) : a ||| 0 = a := by
  apply u8ext
  intro i hi
  simp
theorem mk_nil (f : UInt8) (i : Nat) : mk [] f i = f := by simp [mk]
theorem mk_more (mask : List UInt8) (f : UInt8) (i : Nat) : mk (mask ++ [f, f]) f i = mk mask f i := by
  unfold mk
  by_cases h : i < mask.length
  · rw [if_pos h, if_pos (by simp; omega)]
    simp [bt, List.getElem?_append_left h]
  · rw [if_neg h]
    split
    · rename_i h2
      have h3 : i = mask.length ∨ i = mask.length + 1 := by simp at h2; omega
      rcases h3 with rfl | rfl <;> simp [bt]
    · rfl
theorem way_whole (n : Nat) (want : List UInt8) (h : want.length = n) : fallR (onesL n) want [] 255 = want := by
  apply ext_bt (by unfold fallR; rw [gen_len, onesL_len, h])
  intro i hi
  unfold fallR at hi ⊢
  rw [gen_len, onesL_len] at hi
  rw [bt_gen _ _ _ (by rw [onesL_len]; exact hi)]
  unfold fallB
  rw [mk_nil, bt_onesL _ _ hi, u8_255_and, show ~~~(255 : UInt8) = 0 from by decide, u8_or_0]
theorem way_nothing (old want : List UInt8) : fallR old want [] 0 = old := by
  apply ext_bt (by unfold fallR; rw [gen_len])
  intro i hi
  unfold fallR at hi ⊢
  rw [gen_len] at hi
  rw [bt_gen _ _ _ hi]
  unfold fallB
  rw [mk_nil, show ~~~(0 : UInt8) = 255 from by decide, u8_or_255, u8_and_255]
theorem way_more (o want mask : List UInt8) (f : UInt8) : fallR o want (mask ++ [f, f]) f = fallR o want mask f := by
  unfold fallR
  apply gen_congr
  intro i hi
  unfold fallB
  rw [mk_more]
theorem way_rise0 (old : List UInt8) : riseR old [] 0 = old := by
  apply ext_bt (by unfold riseR; rw [gen_len])
  intro i hi
  unfold riseR at hi ⊢
  rw [gen_len] at hi
  rw [bt_gen _ _ _ hi]
  unfold riseB
  rw [mk_nil, u8_or_0]
theorem way_rise1 (old : List UInt8) : riseR old [] 255 = onesL old.length := by
  unfold riseR onesL
  apply gen_congr
  intro i hi
  unfold riseB
  rw [mk_nil, u8_or_255]
set_option maxRecDepth 1000000 in
theorem popN_or : ∀ a : Fin 256, ∀ x : Fin 256, popN a.val ≤ popN (a.val ||| x.val) ∧ (popN (a.val ||| x.val) = popN a.val → a.val ||| x.val = a.val) := by decide +kernel
theorem pop_or (a x : UInt8) : pop a ≤ pop (a ||| x) ∧ (pop (a ||| x) = pop a → a ||| x = a) := by
  have h := popN_or ⟨a.toNat, a.toNat_lt⟩ ⟨x.toNat, x.toNat_lt⟩
  have e : (a ||| x).toNat = a.toNat ||| x.toNat := UInt8.toNat_or a x
  refine ⟨?_, fun hq => ?_⟩
  · show popN a.toNat ≤ popN (a ||| x).toNat
    rw [e]; exact h.1
  · apply UInt8.toNat_inj.mp
    rw [e]
    apply h.2
    show popN (a.toNat ||| x.toNat) = popN a.toNat
    rw [← e]; exact hq
theorem zeros_rise : ∀ (l m : List UInt8), l.length = m.length → (∀ i, i < l.length → ∃ x, bt m i = bt l i ||| x) → zeros m ≤ zeros l ∧ (zeros m = zeros l → m = l)
  | [], [], _, _ => ⟨Nat.le_refl _, fun _ => rfl⟩
  | [], _ :: _, h, _ => by simp at h
  | _ :: _, [], h, _ => by simp at h
  | a :: l, b :: m, h, hx => by
    obtain ⟨x, e⟩ := hx 0 (by simp)
    have e' : b = a ||| x := by simpa [bt] using e
    have ih := zeros_rise l m (by simpa using h) (fun i hi => by
      obtain ⟨y, ey⟩ := hx (i + 1) (by simpa using hi)
      exact ⟨y, by simpa [bt] using ey⟩)
    have hp := pop_or a x
    have h8 := pop_le a
    have h8b := pop_le b
    rw [← e'] at hp
    simp only [zeros]
    refine ⟨by omega, fun hq => ?_⟩
    have h1 : pop b = pop a := by omega
    have h2 : zeros m = zeros l := by omega
    rw [hp.2 h1, ih.2 h2]
theorem way_zeros (n : Nat) (want mask : List UInt8) (f : UInt8) (h : want.length = n) : zeros (fallR (onesL n) want mask f) ≤ zeros want ∧ (zeros (fallR (onesL n) want mask f) = zeros want → fallR (onesL n) want mask f = want) := by
  apply zeros_rise
  · unfold fallR; rw [gen_len, onesL_len, h]
  · intro i hi
    refine ⟨~~~(mk mask f i), ?_⟩
    unfold fallR
    rw [bt_gen _ _ _ (by rw [onesL_len]; omega)]
    unfold fallB
    rw [bt_onesL _ _ (by omega), u8_255_and]
theorem way_fall0 (old want mask : List UInt8) (f : UInt8) (k : Nat) : Go.bits .andNot .u8 ((fallB old want mask f k).toNat : Int) ((bt old k).toNat : Int) = 0 := by
  rw [u8_andNot_b]
  unfold fallB
  rw [u8_fall0]; rfl
theorem way_up0 (old mask : List UInt8) (f : UInt8) (k : Nat) : Go.bits .andNot .u8 ((bt old k).toNat : Int) ((riseB old mask f k).toNat : Int) = 0 := by
  rw [u8_andNot_b]
  unfold riseB
  rw [u8_rise0]; rfl

end Go.Proofs.Ytelpdcggpahocaa
