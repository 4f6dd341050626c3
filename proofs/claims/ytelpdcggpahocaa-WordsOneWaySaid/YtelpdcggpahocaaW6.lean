/- Walks of the document's Flip, power, Put. -/
import Derived.Test.YtelpdcggpahocaaW5
namespace Go.Proofs.Ytelpdcggpahocaa
open Go.RowKit
set_option linter.unusedVariables false
set_option linter.unusedSimpArgs false

set_option maxHeartbeats 1600000 in
theorem refflip_any (A : Option Addr) (n cap : Nat) (l : List UInt8) (bit : Int) (w : World) (hl : l.length = n) (hr : Rd w A (u8s l)) (hm : n ≤ 140737488355328) (hb1 : -9223372036854775808 ≤ bit) (hb2 : bit ≤ 9223372036854775807) :
    Calls Try.prog 22 #[.slice A n cap, .int .i64 bit] w fun e w' => ∃ v, e = .returned (.tuple #[v, .int .i64 (flipR l bit).2]) ∧ NewB w w' v (flipR l bit).1 := by
  have HL := Lib.hid hl
  clear hl
  by_cases h0 : bit < 0
  · have e : flipR l bit = (l, 10) := by unfold flipR; rw [if_pos (by omega)]
    rw [e]; clear e
    go_enter Try.func22, Try.ntmps22
    go_wp2_with (go_at_call 37; refine (refjoin_any _ _ _ l _ HL.out hr hm).mono ?_; rintro e w1 ⟨v, rfl, hv⟩)
    go_ret2
    exact ⟨_, rfl, hv⟩
  · obtain ⟨b, rfl⟩ : ∃ b : Nat, bit = b := ⟨bit.toNat, by omega⟩
    by_cases h1 : n ≤ b / 8
    · have e : flipR l b = (l, 10) := by unfold flipR; rw [if_pos (by have := HL.out; omega)]
      rw [e]; clear e
      have h1' : (n : Int) ≤ (b : Int) / 8 := by omega
      go_enter Try.func22, Try.ntmps22
      go_wp2_with (go_at_call 37; refine (refjoin_any _ _ _ l _ HL.out hr hm).mono ?_; rintro e w1 ⟨v, rfl, hv⟩)
      go_ret2
      exact ⟨_, rfl, hv⟩
    · have e : flipR l b = (flipB l b, 0) := by unfold flipR; rw [if_neg (by have := HL.out; omega)]; rfl
      rw [e]; clear e
      have hlt8 : b / 8 < n := by omega
      go_enter Try.func22, Try.ntmps22
      go_wp2_with (go_at_call 37; refine (refjoin_any _ _ _ l _ HL.out hr hm).mono ?_; rintro e w1 ⟨v, rfl, hv⟩)
      have hlen := HL.out
      obtain ⟨g, cap1, sp, rfl, hblk, hg, hcap, hback⟩ := hv.blk hlen (by omega)
      have hc : w1.cell? ⟨g, b / 8, none⟩ = some (.int .u8 ((bt l (b / 8)).toNat : Int)) := by
        rw [hblk.cell, List.getElem?_append_left (by rw [u8s_length]; omega), u8s_bt _ _ (by omega)]
      have hz := hblk.frozen (b / 8)
      have hx := xor_bit (bt l (b / 8)) (b % 8) (by omega)
      have hbs := hblk.set_ (b / 8) (bv (flipBit (bt l (b / 8)) (b % 8)))
      rw [List.set_append_left _ _ (by rw [u8s_length]; omega), u8s_set] at hbs
      have hfs := (Frm.refl (· = g) w1).setCell (p := ⟨g, b / 8, none⟩) (fun _ => rfl) (bv (flipBit (bt l (b / 8)) (b % 8)))
      have hnew := hback _ (flipB l b) (by rw [flipB_len]; exact hlen) hbs hfs
      clear hback hblk hbs hfs hv hlen
      go_wp2
      go_region
      go_wp2
      go_ret2
      exact ⟨_, rfl, hnew.drew⟩

set_option maxHeartbeats 800000 in
theorem power_any (v : Nat) (size : Nat) (w : World) (h1 : 1 ≤ size) (h8 : size ≤ 8) (hv : v < 18446744073709551616) :
    Calls Try.prog 40 #[.int .u64 (v : Int), .int .i64 (size : Int)] w fun e w' => e = .returned (.bool (decide (v < 256 ^ size))) ∧ w = w' := by
  have HV := Lib.hid hv
  clear hv
  by_cases h : size = 8
  · subst h
    go_enter Try.func40, Try.ntmps40
    go_wp2
    go_ret
    refine ⟨?_, rfl⟩
    rw [decide_eq_true (by have := HV.out; rw [show (256 : Nat) ^ 8 = 18446744073709551616 from rfl]; exact this)]
    rfl
  · have h' : ¬ (size : Int) = 8 := by omega
    go_enter Try.func40, Try.ntmps40
    go_wp2
    go_ret
    refine ⟨?_, rfl⟩
    show Ending.returned (Value.bool ((size : Int) == 8 || (v : Int) / 2 ^ (8 * size) == 0)) = _
    rw [shr_zero, show ((size : Int) == 8) = false from by simpa using h', Bool.false_or]

set_option maxHeartbeats 1600000 in
theorem refput_any (A : Option Addr) (n cap : Nat) (l : List UInt8) (at_ size : Int) (v : Nat) (w : World) (hl : l.length = n) (hr : Rd w A (u8s l)) (hm : n ≤ 140737488355328)
    (hv : v < 18446744073709551616) (ha1 : -9223372036854775808 ≤ at_) (ha2 : at_ ≤ 9223372036854775807) :
    Calls Try.prog 28 #[.slice A n cap, .int .i64 at_, .int .i64 size, .int .u64 v] w fun e w' => ∃ u, e = .returned (.tuple #[u, .int .i64 (putR l at_ size v).2]) ∧ NewB w w' u (putR l at_ size v).1 := by
  have HL := Lib.hid hl
  have HV := Lib.hid hv
  clear hl hv
  by_cases h1 : size < 1
  · have e : putR l at_ size v = (l, 11) := by unfold putR; rw [if_pos (.inl h1)]
    rw [e]; clear e
    go_enter Try.func28, Try.ntmps28
    go_wp2_with (go_at_call 37; refine (refjoin_any _ _ _ l _ HL.out hr hm).mono ?_; rintro e w1 ⟨v, rfl, hv⟩)
    go_ret2
    exact ⟨_, rfl, hv⟩
  by_cases h2 : 8 < size
  · have e : putR l at_ size v = (l, 11) := by unfold putR; rw [if_pos (.inr (.inl h2))]
    rw [e]; clear e
    go_enter Try.func28, Try.ntmps28
    go_wp2_with (go_at_call 37; refine (refjoin_any _ _ _ l _ HL.out hr hm).mono ?_; rintro e w1 ⟨v, rfl, hv⟩)
    go_ret2
    exact ⟨_, rfl, hv⟩
  obtain ⟨size, rfl⟩ : ∃ n : Nat, size = n := ⟨size.toNat, by omega⟩
  have h1' : 1 ≤ size := by omega
  have h8' : size ≤ 8 := by omega
  by_cases h3 : v < 256 ^ size
  · have hpow := decide_eq_true h3
    by_cases ha : at_ < 0 ∨ (n : Int) - size < at_
    · have e : putR l at_ size v = (l, 10) := by unfold putR; rw [if_neg (by simp only [Int.toNat_natCast]; omega), if_pos (by have := HL.out; omega)]
      rw [e]; clear e
      by_cases h0 : at_ < 0
      · go_enter Try.func28, Try.ntmps28
        go_wp2_with (first | (go_at_call 37; refine (refjoin_any _ _ _ l _ HL.out hr hm).mono ?_; rintro e w1 ⟨v, rfl, hv⟩) | (go_at_call 40; refine (power_any v size _ h1' h8' HV.out).mono ?_; rintro e w' ⟨rfl, rfl⟩; rw [hpow]))
        go_ret2
        exact ⟨_, rfl, hv⟩
      · by_cases h4 : (n : Int) < at_
        · go_enter Try.func28, Try.ntmps28
          go_wp2_with (first | (go_at_call 37; refine (refjoin_any _ _ _ l _ HL.out hr hm).mono ?_; rintro e w1 ⟨v, rfl, hv⟩) | (go_at_call 40; refine (power_any v size _ h1' h8' HV.out).mono ?_; rintro e w' ⟨rfl, rfl⟩; rw [hpow]))
          go_ret2
          exact ⟨_, rfl, hv⟩
        · have h5 : (n : Int) - at_ < size := by omega
          go_enter Try.func28, Try.ntmps28
          go_wp2_with (first | (go_at_call 37; refine (refjoin_any _ _ _ l _ HL.out hr hm).mono ?_; rintro e w1 ⟨v, rfl, hv⟩) | (go_at_call 40; refine (power_any v size _ h1' h8' HV.out).mono ?_; rintro e w' ⟨rfl, rfl⟩; rw [hpow]))
          go_ret2
          exact ⟨_, rfl, hv⟩
    · have e : putR l at_ size v = (putB l at_.toNat size v, 0) := by unfold putR; rw [if_neg (by simp only [Int.toNat_natCast]; omega), if_neg (by have := HL.out; omega)]; rfl
      rw [e]; clear e
      obtain ⟨at_, rfl⟩ : ∃ n : Nat, at_ = n := ⟨at_.toNat, by omega⟩
      have hat : at_ + size ≤ n := by omega
      have h4 : ¬ (n : Int) < at_ := by omega
      have h5 : ¬ (n : Int) - at_ < size := by omega
      clear ha h1 h2 ha1 ha2
      simp only [Int.toNat_natCast]
      go_enter Try.func28, Try.ntmps28
      go_wp2_with (first | (go_at_call 37; refine (refjoin_any _ _ _ l _ HL.out hr hm).mono ?_; rintro e w1 ⟨u, rfl, hv⟩; obtain ⟨g, cap1, sp, rfl, hblk, hg, hcap, hback⟩ := hv.blk HL.out (by omega)) | (go_at_call 40; refine (power_any v size _ h1' h8' HV.out).mono ?_; rintro e w' ⟨rfl, rfl⟩; rw [hpow]))
      go_loopw [3, 11] (fun vv i wr => ∃ k q : Nat, k ≤ size ∧ i = .int .i64 k ∧ vv = .int .u64 (q : Int) ∧ Hid (q = v / 256 ^ k) ∧ Blk wr g 5 (u8s (putB l at_ k v) ++ sp) ∧ Frm (· = g) w1 wr) (fun _ i _ => size - (intOf i).toNat)
      case atStart => exact ⟨0, v, by omega, rfl, rfl, Lib.hid (by simp), by simpa [putB, leb, gen_zero] using hblk, Frm.refl _ _⟩
      case round =>
        obtain ⟨k, q, hk, rfl, rfl, HQ, hbr, hfr⟩ := hrel
        by_cases hlt : k < size
        · have hlen := HL.out
          have hlo : (u8s (putB l at_ k v)).length = n := by rw [u8s_length, putB_len _ _ _ _ (by omega)]; omega
          have hz := hbr.frozen (at_ + k)
          have hc : ∃ u, wr.cell? ⟨g, at_ + k, none⟩ = some u := by
            rw [hbr.cell]
            exact ⟨_, List.getElem?_eq_getElem (by simp only [List.length_append]; omega)⟩
          obtain ⟨u, hc⟩ := hc
          have hx := lowB_int q
          have hbs := hbr.set_ (at_ + k) (bv (lowB q))
          rw [List.set_append_left _ _ (by omega), u8s_set, HQ.out, putB_step _ _ _ _ (by omega), ← HQ.out] at hbs
          have hfs := hfr.setCell (p := ⟨g, at_ + k, none⟩) (fun _ => rfl) (bv (lowB q))
          clear hbr hlen hlo
          go_wp2
          go_roundw
          case rel => exact ⟨k + 1, q / 256, by omega, by go_num, by rw [wrap_div q (by rw [HQ.out]; exact Nat.lt_of_le_of_lt (Nat.div_le_self _ _) HV.out)], Lib.hid (by rw [HQ.out, Nat.div_div_eq_div_mul, Nat.pow_succ]), hbs, hfs⟩
          case measure => simp [intOf]; omega
        · obtain rfl : k = size := by omega
          go_wp2
          go_ret2
          have hlen := HL.out
          exact ⟨_, rfl, hback _ _ (by rw [putB_len _ _ _ _ (by omega)]; exact hlen) hbr hfr⟩
  · have hpow := decide_eq_false h3
    have e : putR l at_ size v = (l, 11) := by unfold putR; rw [if_pos (by simp only [Int.toNat_natCast]; omega)]
    rw [e]; clear e
    go_enter Try.func28, Try.ntmps28
    go_wp2_with (first | (go_at_call 37; refine (refjoin_any _ _ _ l _ HL.out hr hm).mono ?_; rintro e w1 ⟨v, rfl, hv⟩) | (go_at_call 40; refine (power_any v size _ h1' h8' HV.out).mono ?_; rintro e w' ⟨rfl, rfl⟩; rw [hpow]))
    go_ret2
    exact ⟨_, rfl, hv⟩
end Go.Proofs.Ytelpdcggpahocaa
