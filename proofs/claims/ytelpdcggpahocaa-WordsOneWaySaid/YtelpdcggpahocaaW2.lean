/- Walks of functions that only read. -/
import Derived.Test.YtelpdcggpahocaaW1
namespace Go.Proofs.Ytelpdcggpahocaa
open Go.RowKit
set_option linter.unusedVariables false
set_option linter.unusedSimpArgs false
set_option maxRecDepth 100000 in
set_option maxHeartbeats 800000 in
theorem ones8_any (b : UInt8) (w : World) :
    Calls Try.prog 35 #[.int .u8 (b.toNat : Int)] w fun e w' => e = .returned (.int .i64 (pop b : Int)) ∧ w = w' := by
  have hb := bv_lt b
  go_enter Try.func35, Try.ntmps35
  go_wp2
  go_ret
  refine ⟨?_, rfl⟩
  show Ending.returned (Value.int IntKind.i64 (wrap64 ((popTab[b.toNat]'(by rw [popTab_size]; exact b.toNat_lt)).toNat : Nat))) = _
  rw [popTab_get _ b.toNat_lt]
  have := pop_le b
  rw [show popN b.toNat = pop b from rfl]
  congr 2
  unfold wrap64
  omega
set_option maxHeartbeats 800000 in
theorem bit_any (A : Option Addr) (len cap : Nat) (l : List UInt8) (n : Nat) (w : World) (hl : l.length = len) (hr : Rd w A (u8s l)) (hn : n < 8 * len) (hm : len ≤ 140737488355328) :
    Calls Try.prog 36 #[.slice A len cap, .int .i64 n] w fun e w' => e = .returned (.int .i64 (bitAt l n : Nat)) ∧ w = w' := by
  have HL := Lib.hid hl
  clear hl
  obtain ⟨ad, rfl, hc⟩ := hr.at_ (k := n / 8) (u8s_bt l (n / 8) (by have := HL.out; omega))
  have hlt : n / 8 < len := by omega
  have hb := bv_lt (bt l (n / 8))
  clear hr
  go_enter Try.func36, Try.ntmps36
  go_wp2
  go_ret
  refine ⟨?_, rfl⟩
  show Ending.returned (Value.int IntKind.i64 _) = _
  congr 2
theorem ret_tup {k : IntKind} {a b : Int} {v : Value} (h : a = b) : Ending.returned (.tuple #[.int k a, v]) = .returned (.tuple #[.int k b, v]) := by rw [h]
set_option maxHeartbeats 800000 in
theorem get_any (A : Option Addr) (len cap : Nat) (at_ size : Int) (l : List UInt8) (w : World) (hl : l.length = len) (hr : Rd w A (u8s l)) (hm : len ≤ 140737488355328) (ha1 : -9223372036854775808 ≤ at_) (ha2 : at_ ≤ 9223372036854775807) :
    Calls Try.prog 16 #[.slice A len cap, .int .i64 at_, .int .i64 size] w fun e w' => e = .returned (.tuple #[.int .u64 ((getR l at_ size).1 : Nat), .int .i64 (getR l at_ size).2]) ∧ w = w' := by
  have HL := Lib.hid hl
  clear hl
  by_cases hs : size < 1 ∨ 8 < size
  · have e : getR l at_ size = (0, 11) := by unfold getR; rw [if_pos hs]
    rw [e]; clear e
    rcases hs with h | h
    · go_enter Try.func16, Try.ntmps16
      go_wp2
      go_ret2
      exact ⟨rfl, rfl⟩
    · have h' : ¬ size < 1 := by omega
      go_enter Try.func16, Try.ntmps16
      go_wp2
      go_ret2
      exact ⟨rfl, rfl⟩
  · have h1 : 1 ≤ size := by omega
    have h8 : size ≤ 8 := by omega
    by_cases ha : at_ < 0 ∨ (len : Int) - size < at_
    · have e : getR l at_ size = (0, 10) := by unfold getR; rw [if_neg hs, if_pos (by have := HL.out; omega)]
      rw [e]; clear e hs
      rcases ha with h | h
      · go_enter Try.func16, Try.ntmps16
        go_wp2
        go_ret2
        exact ⟨rfl, rfl⟩
      · have h' : (len : Int) - size < at_ := by omega
        by_cases h0 : at_ < 0
        · go_enter Try.func16, Try.ntmps16
          go_wp2
          go_ret2
          exact ⟨rfl, rfl⟩
        · go_enter Try.func16, Try.ntmps16
          go_wp2
          go_ret2
          exact ⟨rfl, rfl⟩
    · have e : getR l at_ size = (le (part l at_.toNat size.toNat), 0) := by unfold getR; rw [if_neg hs, if_neg (by have := HL.out; omega)]
      rw [e]; clear e hs
      obtain ⟨at_, rfl⟩ : ∃ n : Nat, at_ = n := ⟨at_.toNat, by omega⟩
      obtain ⟨size, rfl⟩ : ∃ n : Nat, size = n := ⟨size.toNat, by omega⟩
      have hat : at_ + size ≤ len := by omega
      have h1' : 1 ≤ size := by omega
      have h8' : size ≤ 8 := by omega
      clear ha h1 h8 ha1 ha2
      simp only [Int.toNat_natCast]
      go_enter Try.func16, Try.ntmps16
      go_wp2
      go_loop [8, 27] (fun v i => ∃ k : Nat, k ≤ size ∧ i = .int .i64 k ∧ v = .int .u64 (le (part l at_ k) : Nat)) (fun _ i => size - (intOf i).toNat)
      case atStart => exact ⟨0, by omega, rfl, by simp [part, le]⟩
      case round =>
        obtain ⟨k, hk, rfl, rfl⟩ := hrel
        by_cases hlt : k < size
        · obtain ⟨ad, rfl, hc⟩ := hr.at_ (k := at_ + k) (u8s_bt l (at_ + k) (by have := HL.out; omega))
          have hb := bv_lt (bt l (at_ + k))
          go_wp2
          go_round
          case rel =>
            refine ⟨k + 1, by omega, by go_num, ?_⟩
            have hlen := HL.out
            have hp := part_len l at_ k (by omega)
            rw [or_step _ _ _ (by omega) (by have := le_lt (part l at_ k); rw [hp] at this; exact this), part_succ l at_ k (by omega), le_snoc, hp]
          case measure => simp [intOf]; omega
        · obtain rfl : k = size := by omega
          go_wp2
          go_ret2
          exact ⟨rfl, rfl⟩
set_option maxHeartbeats 800000 in
theorem refget_any (A : Option Addr) (len cap : Nat) (at_ size : Int) (l : List UInt8) (w : World) (hl : l.length = len) (hr : Rd w A (u8s l)) (hm : len ≤ 140737488355328) (ha1 : -9223372036854775808 ≤ at_) (ha2 : at_ ≤ 9223372036854775807) :
    Calls Try.prog 17 #[.slice A len cap, .int .i64 at_, .int .i64 size] w fun e w' => e = .returned (.tuple #[.int .u64 ((getR l at_ size).1 : Nat), .int .i64 (getR l at_ size).2]) ∧ w = w' := by
  have HL := Lib.hid hl
  clear hl
  by_cases hs : size < 1 ∨ 8 < size
  · have e : getR l at_ size = (0, 11) := by unfold getR; rw [if_pos hs]
    rw [e]; clear e
    rcases hs with h | h
    · go_enter Try.func17, Try.ntmps17
      go_wp2
      go_ret2
      exact ⟨rfl, rfl⟩
    · have h' : ¬ size < 1 := by omega
      go_enter Try.func17, Try.ntmps17
      go_wp2
      go_ret2
      exact ⟨rfl, rfl⟩
  · have h1 : 1 ≤ size := by omega
    have h8 : size ≤ 8 := by omega
    by_cases ha : at_ < 0 ∨ (len : Int) - size < at_
    · have e : getR l at_ size = (0, 10) := by unfold getR; rw [if_neg hs, if_pos (by have := HL.out; omega)]
      rw [e]; clear e hs
      by_cases h0 : at_ < 0
      · go_enter Try.func17, Try.ntmps17
        go_wp2
        go_ret2
        exact ⟨rfl, rfl⟩
      · by_cases h3 : (len : Int) < at_
        · go_enter Try.func17, Try.ntmps17
          go_wp2
          go_ret2
          exact ⟨rfl, rfl⟩
        · have h' : (len : Int) - at_ < size := by omega
          go_enter Try.func17, Try.ntmps17
          go_wp2
          go_ret2
          exact ⟨rfl, rfl⟩
    · have e : getR l at_ size = (le (part l at_.toNat size.toNat), 0) := by unfold getR; rw [if_neg hs, if_neg (by have := HL.out; omega)]
      rw [e]; clear e hs
      obtain ⟨at_, rfl⟩ : ∃ n : Nat, at_ = n := ⟨at_.toNat, by omega⟩
      obtain ⟨size, rfl⟩ : ∃ n : Nat, size = n := ⟨size.toNat, by omega⟩
      have hat : at_ + size ≤ len := by omega
      have h1' : 1 ≤ size := by omega
      have h8' : size ≤ 8 := by omega
      have h3 : ¬ (len : Int) < at_ := by omega
      have h4 : ¬ (len : Int) - at_ < size := by omega
      clear ha h1 h8 ha1 ha2
      simp only [Int.toNat_natCast]
      go_enter Try.func17, Try.ntmps17
      go_wp2
      go_loop [8, 9] (fun v i => ∃ k : Nat, k ≤ size ∧ i = .int .i64 ((size : Int) - 1 - k) ∧ v = .int .u64 (le (part l (at_ + size - k) k) : Nat)) (fun _ i => (intOf i + 1).toNat)
      case atStart => exact ⟨0, by omega, by go_num, by simp [part, le]⟩
      case round =>
        obtain ⟨k, hk, rfl, rfl⟩ := hrel
        by_cases hlt : k < size
        · have hlen := HL.out
          have hstep := mul_step (le (part l (at_ + size - k) k)) k (bt l (at_ + (size - 1 - k))) (by omega) (by have := le_lt (part l (at_ + size - k) k); rw [part_len _ _ _ (by omega)] at this; exact this)
          obtain ⟨ad, rfl, hc⟩ := hr.at_ (k := at_ + (size - 1 - k)) (u8s_bt l (at_ + (size - 1 - k)) (by omega))
          have hb := bv_lt (bt l (at_ + (size - 1 - k)))
          clear hlen
          have HS := Lib.hid hstep
          clear hstep
          have g0 : 0 ≤ (size : Int) - 1 - k := by omega
          have g1 : (size : Int) - 1 - k < size := by omega
          have g2 : ((at_ : Int) + ((size : Int) - 1 - k)).toNat = at_ + (size - 1 - k) := by omega
          go_wp2
          go_round
          case rel =>
            refine ⟨k + 1, by omega, by go_num, ?_⟩
            rw [HS.out, show at_ + size - (k + 1) = at_ + (size - 1 - k) from by omega, part_cons _ _ _ (by have := HL.out; omega), show at_ + (size - 1 - k) + 1 = at_ + size - k from by omega]
            rfl
          case measure => simp [intOf]; omega
        · obtain rfl : k = size := by omega
          go_wp2
          go_ret2
          exact ⟨rfl, rfl⟩
set_option maxHeartbeats 800000 in
theorem zeros_any (A : Option Addr) (len cap : Nat) (l : List UInt8) (w : World) (hl : l.length = len) (hr : Rd w A (u8s l)) (hm : len ≤ 140737488355328) :
    Calls Try.prog 19 #[.slice A len cap] w fun e w' => e = .returned (.int .i64 (zeros l : Nat)) ∧ w = w' := by
  have HL := Lib.hid hl
  clear hl
  go_enter Try.func19, Try.ntmps19
  go_wp2
  go_loop [3, 11] (fun v i => ∃ k : Nat, k ≤ len ∧ i = .int .i64 k ∧ v = .int .i64 ((8 * (len - k) + zeros (l.take k) : Nat) : Int)) (fun _ i => len - (intOf i).toNat)
  case atStart => exact ⟨0, by omega, rfl, by simp [zeros]⟩
  case round =>
    obtain ⟨k, hk, rfl, rfl⟩ := hrel
    by_cases hlt : k < len
    · have hlen := HL.out
      have hz := zeros_le (l.take k)
      rw [List.length_take, Nat.min_eq_left (by omega)] at hz
      have hst := zeros_take_succ l k (by omega)
      have hp := pop_le (bt l k)
      obtain ⟨ad, rfl, hc⟩ := hr.at_ (k := k) (u8s_bt l k (by omega))
      have HS := Lib.hid hst
      clear hst hlen
      go_wp2_with (go_at_call 35; refine (ones8_any _ _).mono ?_; rintro e w' ⟨rfl, rfl⟩)
      go_round
      case rel =>
        refine ⟨k + 1, by omega, by go_num, ?_⟩
        rw [HS.out]
        congr 1
        omega
      case measure => simp [intOf]; omega
    · obtain rfl : k = len := by omega
      go_wp2
      go_ret
      refine ⟨?_, rfl⟩
      have hlen := HL.out
      rw [List.take_of_length_le (by omega)]
      show Ending.returned (Value.int IntKind.i64 _) = _
      congr 2
set_option maxHeartbeats 800000 in
theorem refzeros_any (A : Option Addr) (len cap : Nat) (l : List UInt8) (w : World) (hl : l.length = len) (hr : Rd w A (u8s l)) (hm : len ≤ 140737488355328) :
    Calls Try.prog 20 #[.slice A len cap] w fun e w' => e = .returned (.int .i64 (zeros l : Nat)) ∧ w = w' := by
  have HL := Lib.hid hl
  clear hl
  go_enter Try.func20, Try.ntmps20
  go_wp2
  go_loop [3, 4] (fun v i => ∃ k : Nat, k ≤ 8 * len ∧ i = .int .i64 k ∧ v = .int .i64 (zc l k : Nat)) (fun _ i => 8 * len - (intOf i).toNat)
  case atStart => exact ⟨0, by omega, rfl, by simp [zc]⟩
  case round =>
    obtain ⟨k, hk, rfl, rfl⟩ := hrel
    by_cases hlt : k < 8 * len
    · have hz := zc_le l k
      have hst : zc l (k + 1) = zc l k + (1 - bitAt l k) := rfl
      have hb := bitAt_lt l k
      have HS := Lib.hid hst
      clear hst
      have hlt' : (k : Int) < 8 * (len : Int) := by omega
      go_wp2_with (go_at_call 36; refine (bit_any _ _ _ l k _ HL.out hr (by omega) (by omega)).mono ?_; rintro e w' ⟨rfl, rfl⟩)
      · have h : ((bitAt l k : Int) == 0) = true := by assumption
        have h0 : bitAt l k = 0 := by simpa using h
        go_round
        case rel => exact ⟨k + 1, by omega, by go_num, by rw [HS.out, h0]; rfl⟩
        case measure => simp [intOf]; omega
      · have h : ((bitAt l k : Int) == 0) = false := by assumption
        have h0 : bitAt l k = 1 := by have : bitAt l k ≠ 0 := by simpa using h
                                      omega
        go_round
        case rel => exact ⟨k + 1, by omega, by go_num, by rw [HS.out, h0]; rfl⟩
        case measure => simp [intOf]; omega
    · obtain rfl : k = 8 * len := by omega
      go_wp2
      go_ret
      refine ⟨?_, rfl⟩
      rw [← HL.out, zc_all]
      rfl
end Go.Proofs.Ytelpdcggpahocaa
