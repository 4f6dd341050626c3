/- Walks of the document's own rails: bit, columns. -/
import Derived.Test.YtekbjcagjkcaiaaDoorTh
namespace Go.Proofs.YtekbjcagjkcaiaaDoor
open Go.RowKit
set_option linter.unusedVariables false
set_option linter.unusedSimpArgs false
theorem i64_nat (x : Nat) (hx : x < 9223372036854775808) : (BitVec.ofInt 64 (x : Int)).toNat = x := by
  rw [BitVec.ofInt_natCast, BitVec.toNat_ofNat]
  omega
theorem i64_and_nat (a b : Nat) (ha : a < 9223372036854775808) (hb : b < 9223372036854775808) : Go.bits .and .i64 (a : Int) (b : Int) = ((a &&& b : Nat) : Int) := by
  have hx : a &&& b < 2 ^ 63 := Nat.and_lt_two_pow a hb
  show IntKind.i64.wrap ((BitVec.ofInt 64 (a : Int) &&& BitVec.ofInt 64 (b : Int)).toNat : Int) = _
  rw [BitVec.toNat_and, i64_nat a ha, i64_nat b hb, IntKind.wrap_i64]
  omega
theorem bit_and (b : UInt8) (k : Nat) : Go.bits .and .i64 (wrap64 ((b.toNat : Int) / 2 ^ k)) 1 = ((b.toNat / 2 ^ k % 2 : Nat) : Int) := by
  have hb := b.toNat_lt
  have e1 : (b.toNat : Int) / 2 ^ k = ((b.toNat / 2 ^ k : Nat) : Int) := by simp
  have h2 : b.toNat / 2 ^ k ≤ b.toNat := Nat.div_le_self _ _
  rw [e1]
  generalize b.toNat / 2 ^ k = x at *
  have e2 : wrap64 ((x : Nat) : Int) = x := by unfold wrap64; omega
  rw [e2, show (1 : Int) = ((1 : Nat) : Int) from rfl, i64_and_nat x 1 (by omega) (by decide), show (1 : Nat) = 2 ^ 1 - 1 from rfl, Nat.and_two_pow_sub_one_eq_mod]
set_option maxHeartbeats 800000 in
theorem rbit_any (b : UInt8) (z : Int) (k : Nat) (hz : z = (k : Int)) (hk : k < 8) (w : World) :
    Calls Tryd.prog 50 #[.int .u8 (b.toNat : Int), .int .i64 z] w fun e w' => e = .returned (.int .i64 ((b.toNat / 2 ^ k % 2 : Nat) : Int)) ∧ w = w' := by
  have hb := b.toNat_lt
  subst hz
  go_enter Tryd.func50, Tryd.ntmps50
  go_wp2
  go_ret
  exact ⟨congrArg (fun x => Ending.returned (Value.int .i64 x)) (bit_and b k), rfl⟩
set_option maxHeartbeats 800000 in
theorem rcols_any (A : Option Addr) (n cap : Nat) (l : List UInt8) (w : World) (hl : l.length = n) (hr : Rd w A (u8s l)) (hm : n ≤ 140737488355328) :
    Calls Tryd.prog 43 #[.slice A n cap] w fun e w' => e = .returned (.int .u8 ((colsB l).toNat : Int)) ∧ w = w' := by
  have HL := Lib.hid hl
  clear hl
  go_enter Tryd.func43, Tryd.ntmps43
  go_wp2
  go_loop [3, 4] (fun s i => ∃ k : Nat, k ≤ n ∧ i = .int .i64 k ∧ s = .int .u8 ((colsB (l.take k)).toNat : Int)) (fun _ i => n - (intOf i).toNat)
  case atStart => exact ⟨0, by omega, rfl, rfl⟩
  case round =>
    obtain ⟨k, hk, rfl, rfl⟩ := hrel
    by_cases hlt : k < n
    · obtain ⟨ad, rfl, hc⟩ := hr.at_ (k := k) (u8s_bt l k (by have := HL.out; omega))
      have hx : Go.bits .xor .u8 ((colsB (l.take k)).toNat : Int) ((bt l k).toNat : Int) = ((colsB (l.take (k + 1))).toNat : Int) := by rw [cols_step l k (by have := HL.out; omega), u8_xor_b]
      go_wp2
      go_round
      case rel => exact ⟨k + 1, by omega, by go_num, rfl⟩
      case measure => simp [intOf]; omega
    · obtain rfl : k = n := by omega
      rw [List.take_of_length_le (by have := HL.out; omega)]
      go_wp2
      go_ret
      exact ⟨rfl, rfl⟩
end Go.Proofs.YtekbjcagjkcaiaaDoor
