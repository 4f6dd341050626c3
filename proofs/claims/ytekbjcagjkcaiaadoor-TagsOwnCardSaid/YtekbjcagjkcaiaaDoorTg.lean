/- The walk of words.Get. -/
import Derived.Test.YtekbjcagjkcaiaaDoorTh
import Derived.WalkKit
namespace Go.Proofs.YtekbjcagjkcaiaaDoor
open Go.RowKit
set_option linter.unusedVariables false
set_option linter.unusedSimpArgs false
theorem ret_tup {k : IntKind} {a b : Int} {v : Value} (h : a = b) : Ending.returned (.tuple #[.int k a, v]) = .returned (.tuple #[.int k b, v]) := by rw [h]
set_option maxHeartbeats 800000 in
theorem get_any (A : Option Addr) (len cap : Nat) (at_ size : Int) (l : List UInt8) (w : World) (hl : l.length = len) (hr : Rd w A (u8s l)) (hm : len ≤ 140737488355328) (ha1 : -9223372036854775808 ≤ at_) (ha2 : at_ ≤ 9223372036854775807) :
    Calls Tryd.prog 28 #[.slice A len cap, .int .i64 at_, .int .i64 size] w fun e w' => e = .returned (.tuple #[.int .u64 ((getR l at_ size).1 : Nat), .int .i64 (getR l at_ size).2]) ∧ w = w' := by
  have HL := Lib.hid hl
  clear hl
  by_cases hs : size < 1 ∨ 8 < size
  · have e : getR l at_ size = (0, 11) := by unfold getR; rw [if_pos hs]
    rw [e]; clear e
    rcases hs with h | h
    · go_enter Tryd.func28, Tryd.ntmps28
      go_wp2
      go_ret2
      exact ⟨rfl, rfl⟩
    · have h' : ¬ size < 1 := by omega
      go_enter Tryd.func28, Tryd.ntmps28
      go_wp2
      go_ret2
      exact ⟨rfl, rfl⟩
  · have h1 : 1 ≤ size := by omega
    have h8 : size ≤ 8 := by omega
    by_cases ha : at_ < 0 ∨ (len : Int) - size < at_
    · have e : getR l at_ size = (0, 10) := by unfold getR; rw [if_neg hs, if_pos (by have := HL.out; omega)]
      rw [e]; clear e hs
      rcases ha with h | h
      · go_enter Tryd.func28, Tryd.ntmps28
        go_wp2
        go_ret2
        exact ⟨rfl, rfl⟩
      · have h' : (len : Int) - size < at_ := by omega
        by_cases h0 : at_ < 0
        · go_enter Tryd.func28, Tryd.ntmps28
          go_wp2
          go_ret2
          exact ⟨rfl, rfl⟩
        · go_enter Tryd.func28, Tryd.ntmps28
          go_wp2
          go_ret2
          exact ⟨rfl, rfl⟩
    · have e : getR l at_ size = (le (part l at_.toNat size.toNat), 0) := by unfold getR; rw [if_neg hs, if_neg (by have := HL.out; omega)]
      rw [e]; clear e hs
      obtain ⟨at_, rfl⟩ : ∃ n : Nat, at_ = n := ⟨at_.toNat, by omega⟩
      obtain ⟨size, rfl⟩ : ∃ n : Nat, size = n := ⟨size.toNat, by omega⟩
      have hat : at_ + size ≤ len := by omega
      have h1' : 1 ≤ size := by omega
      have h8' : size ≤ 8 := by omega
      clear ha h1 h8 ha1 ha2
      simp only [Int.toNat_natCast]
      go_enter Tryd.func28, Tryd.ntmps28
      go_wp2
      go_loop [8, 27] (fun v i => ∃ k : Nat, k ≤ size ∧ i = .int .i64 k ∧ v = .int .u64 (le (part l at_ k) : Nat)) (fun _ i => size - (intOf i).toNat)
      case atStart => exact ⟨0, by omega, rfl, by simp [part, le]⟩
      case round =>
        obtain ⟨k, hk, rfl, rfl⟩ := hrel
        by_cases hlt : k < size
        · obtain ⟨ad, rfl, hc⟩ := hr.at_ (k := at_ + k) (u8s_bt l (at_ + k) (by have := HL.out; omega))
          have hb := bv_lt (bt l (at_ + k))
          go_wp2
          go_round
          case rel =>
            refine ⟨k + 1, by omega, by go_num, ?_⟩
            have hlen := HL.out
            have hp := part_len l at_ k (by omega)
            rw [or_step _ _ _ (by omega) (by have := le_lt (part l at_ k); rw [hp] at this; exact this), part_succ l at_ k (by omega), le_snoc, hp]
          case measure => simp [intOf]; omega
        · obtain rfl : k = size := by omega
          go_wp2
          go_ret2
          exact ⟨rfl, rfl⟩
end Go.Proofs.YtekbjcagjkcaiaaDoor
