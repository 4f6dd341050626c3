/- Walks of the sum of a sector, the program's and the document's. -/
import Derived.Test.YtafjnkmfebibfaaDoorHk
import Derived.Test.YtafjnkmfebibfaaDoorHm
namespace Go.Proofs.YtafjnkmfebibfaaDoor
open Go.RowKit
set_option linter.unusedVariables false
set_option linter.unusedSimpArgs false
set_option maxRecDepth 100000 in
set_option maxHeartbeats 800000 in
theorem ones8_any (b : UInt8) (w : World) :
    Calls Tryd.prog 31 #[.int .u8 (b.toNat : Int)] w fun e w' => e = .returned (.int .i64 (pop b : Int)) ∧ w = w' := by
  have hb := bv_lt b
  go_enter Tryd.func31, Tryd.ntmps31
  go_wp2
  go_ret
  refine ⟨?_, rfl⟩
  show Ending.returned (Value.int IntKind.i64 (wrap64 ((popTab[b.toNat]'(by rw [popTab_size]; exact b.toNat_lt)).toNat : Nat))) = _
  rw [popTab_get _ b.toNat_lt]
  have := pop_le b
  rw [show popN b.toNat = pop b from rfl]
  congr 2
  unfold wrap64
  omega
theorem ones8_nat (x : Nat) (hx : x < 256) (w : World) : Calls Tryd.prog 31 #[.int .u8 (x : Int)] w fun e w' => e = .returned (.int .i64 ((popN x : Nat) : Int)) ∧ w = w' := by
  have h := ones8_any (UInt8.ofNat x) w
  rw [show pop (UInt8.ofNat x) = popN (UInt8.ofNat x).toNat from rfl, UInt8.toNat_ofNat_of_lt' (by show _ < 256; omega)] at h
  exact h
theorem idx4 (a0 a1 a2 a3 : Value) (k : Nat) (x : Int) (v : Value) (hx : x = k) (hk : k < 4) (hv : [a0, a1, a2, a3][k]? = some v) (w : World) : (Instr.index 56 (.agg #[a0, a1, a2, a3]) (.int .i64 x)).run Tryd.prog w = .ok v w := by
  subst hx
  have hs : (sizeOf 5).run Tryd.prog w = .ok 1 w := by kernel_rfl
  have ha : (isAgg 5).run Tryd.prog w = .ok false w := by kernel_rfl
  have hk2 : 0 ≤ (k : Int) ∧ (k : Int) < ((4 : Nat) : Int) := by omega
  have hv' : (#[a0, a1, a2, a3] : Array Value)[k]? = some v := by rw [← Array.getElem?_toList]; exact hv
  simp only [Instr.index, asIntOf, run_underlying Tryd.underlying56, Sem.run_bind, Sem.run_pure, Result.andThen_ok]
  rw [if_pos hk2]
  simp only [Int.toNat_natCast, hs, Sem.run_bind, Result.andThen_ok, Nat.mul_one]
  unfold Go.part
  simp only [Sem.run_bind, ha, Result.andThen_ok, Bool.false_eq_true, if_false, hv', Sem.run_pure]
theorem i64_nat (x : Nat) (hx : x < 9223372036854775808) : (BitVec.ofInt 64 (x : Int)).toNat = x := by
  rw [BitVec.ofInt_natCast, BitVec.toNat_ofNat]
  omega
theorem i64_and_nat (a b : Nat) (ha : a < 9223372036854775808) (hb : b < 9223372036854775808) : Go.bits .and .i64 (a : Int) (b : Int) = ((a &&& b : Nat) : Int) := by
  have hx : a &&& b < 2 ^ 63 := Nat.and_lt_two_pow a hb
  show IntKind.i64.wrap ((BitVec.ofInt 64 (a : Int) &&& BitVec.ofInt 64 (b : Int)).toNat : Int) = _
  rw [BitVec.toNat_and, i64_nat a ha, i64_nat b hb, IntKind.wrap_i64]
  omega
theorem i64_or_nat (a b : Nat) (ha : a < 9223372036854775808) (hb : b < 9223372036854775808) : Go.bits .or .i64 (a : Int) (b : Int) = ((a ||| b : Nat) : Int) := by
  have hx : a ||| b < 2 ^ 63 := Nat.or_lt_two_pow ha hb
  show IntKind.i64.wrap ((BitVec.ofInt 64 (a : Int) ||| BitVec.ofInt 64 (b : Int)).toNat : Int) = _
  rw [BitVec.toNat_or, i64_nat a ha, i64_nat b hb, IntKind.wrap_i64]
  omega
theorem i64_xor_nat (a b : Nat) (ha : a < 9223372036854775808) (hb : b < 9223372036854775808) : Go.bits .xor .i64 (a : Int) (b : Int) = ((a ^^^ b : Nat) : Int) := by
  have hx : a ^^^ b < 2 ^ 63 := Nat.xor_lt_two_pow ha hb
  show IntKind.i64.wrap ((BitVec.ofInt 64 (a : Int) ^^^ BitVec.ofInt 64 (b : Int)).toNat : Int) = _
  rw [BitVec.toNat_xor, i64_nat a ha, i64_nat b hb, IntKind.wrap_i64]
  omega
theorem oddTo_lt (b : Nat) : ∀ k, oddTo b k < 2 ^ k
  | 0 => by simp [oddTo]
  | k + 1 => by
    have h := oddTo_lt b k
    refine Nat.or_lt_two_pow (by rw [Nat.pow_succ]; omega) ?_
    have h2 : popN (b &&& maskN k) % 2 * 2 ^ k ≤ 1 * 2 ^ k := Nat.mul_le_mul_right _ (by omega)
    have := Nat.two_pow_pos k
    rw [Nat.pow_succ]; omega
theorem odd_step (b k c : Nat) (y : Int) (hk : k < 4) (hc : c = b &&& maskN k) (hy : y = 2 ^ k) : Go.bits .or .i64 ((oddTo b k : Nat) : Int) (wrap64 (Go.bits .and .i64 ((popN c : Nat) : Int) 1 * y)) = ((oddTo b (k + 1) : Nat) : Int) := by
  subst hy
  have hp : popN c ≤ 8 := by unfold popN; omega
  have h1 : Go.bits .and .i64 ((popN c : Nat) : Int) 1 = ((popN c % 2 : Nat) : Int) := by
    rw [show (1 : Int) = ((1 : Nat) : Int) from rfl, i64_and_nat _ _ (by omega) (by decide), show (1 : Nat) = 2 ^ 1 - 1 from rfl, Nat.and_two_pow_sub_one_eq_mod]
  have hq : (2 : Nat) ^ k ≤ 8 := by
    have : k = 0 ∨ k = 1 ∨ k = 2 ∨ k = 3 := by omega
    rcases this with rfl | rfl | rfl | rfl <;> decide
  have h2 : popN c % 2 * 2 ^ k ≤ 1 * 2 ^ k := Nat.mul_le_mul_right _ (by omega)
  have h3 : ((popN c % 2 : Nat) : Int) * 2 ^ k = ((popN c % 2 * 2 ^ k : Nat) : Int) := by simp
  have h4 := oddTo_lt b k
  rw [h1, h3, show wrap64 ((popN c % 2 * 2 ^ k : Nat) : Int) = ((popN c % 2 * 2 ^ k : Nat) : Int) by unfold wrap64; omega, i64_or_nat _ _ (by omega) (by omega), hc]
  rfl
def intI : Value → Nat
  | .int _ x => x.toNat
  | _ => 0
set_option maxHeartbeats 1600000 in
theorem odd_any (b : UInt8) (w : World) : Calls Tryd.prog 29 #[.int .u8 (b.toNat : Int)] w fun e w' => e = .returned (.int .u32 ((oddN b : Nat) : Int)) ∧ w = w' := by
  have hb := b.toNat_lt
  go_enter Tryd.func29, Tryd.ntmps29
  go_wp2
  go_loopw [3, 7] (fun t i wr => ∃ k : Nat, k ≤ 4 ∧ i = .int .i64 k ∧ t = .int .i64 ((oddTo b.toNat k : Nat) : Int) ∧ wr = w) (fun _ i _ => 4 - (intI i))
  case atStart => exact ⟨0, by omega, rfl, rfl, rfl⟩
  case round =>
    obtain ⟨k, hk, rfl, rfl, rfl⟩ := hrel
    have hcase : k = 0 ∨ k = 1 ∨ k = 2 ∨ k = 3 ∨ k = 4 := by omega
    rcases hcase with rfl | rfl | rfl | rfl | rfl
    · obtain ⟨c, hc⟩ : ∃ c : Nat, c = b.toNat &&& 170 := ⟨_, rfl⟩
      have hlt : c < 256 := by rw [hc]; exact Nat.lt_of_le_of_lt Nat.and_le_right (by decide)
      have eA : Go.bits .and .u8 (b.toNat : Int) 170 = (c : Int) := by rw [hc, show (170 : Int) = ((170 : Nat) : Int) from rfl, u8_and_nat _ _ b.toNat_lt (by decide)]
      have HC := Lib.hid hc
      clear hc
      have hix := idx4 (.int .u8 170) (.int .u8 204) (.int .u8 240) (.int .u8 255) 0 0 _ rfl (by decide) rfl
      go_wp2_with (go_at_call 31; (with_reducible refine (ones8_nat c hlt _).mono ?_); rintro e w' ⟨rfl, rfl⟩)
      have hs := odd_step b.toNat 0 c 1 (by decide) HC.out rfl
      rw [Int.mul_one] at hs
      refine ⟨⟨1, by decide, rfl, by rw [hs], trivial⟩, ?_⟩
      simp [intI]
    · obtain ⟨c, hc⟩ : ∃ c : Nat, c = b.toNat &&& 204 := ⟨_, rfl⟩
      have hlt : c < 256 := by rw [hc]; exact Nat.lt_of_le_of_lt Nat.and_le_right (by decide)
      have eA : Go.bits .and .u8 (b.toNat : Int) 204 = (c : Int) := by rw [hc, show (204 : Int) = ((204 : Nat) : Int) from rfl, u8_and_nat _ _ b.toNat_lt (by decide)]
      have HC := Lib.hid hc
      clear hc
      have hix := idx4 (.int .u8 170) (.int .u8 204) (.int .u8 240) (.int .u8 255) 1 1 _ rfl (by decide) rfl
      go_wp2_with (go_at_call 31; (with_reducible refine (ones8_nat c hlt _).mono ?_); rintro e w' ⟨rfl, rfl⟩)
      have hs := odd_step b.toNat 1 c 2 (by decide) HC.out rfl
      refine ⟨⟨2, by decide, rfl, by rw [hs], trivial⟩, ?_⟩
      simp [intI]
    · obtain ⟨c, hc⟩ : ∃ c : Nat, c = b.toNat &&& 240 := ⟨_, rfl⟩
      have hlt : c < 256 := by rw [hc]; exact Nat.lt_of_le_of_lt Nat.and_le_right (by decide)
      have eA : Go.bits .and .u8 (b.toNat : Int) 240 = (c : Int) := by rw [hc, show (240 : Int) = ((240 : Nat) : Int) from rfl, u8_and_nat _ _ b.toNat_lt (by decide)]
      have HC := Lib.hid hc
      clear hc
      have hix := idx4 (.int .u8 170) (.int .u8 204) (.int .u8 240) (.int .u8 255) 2 2 _ rfl (by decide) rfl
      go_wp2_with (go_at_call 31; (with_reducible refine (ones8_nat c hlt _).mono ?_); rintro e w' ⟨rfl, rfl⟩)
      have hs := odd_step b.toNat 2 c 4 (by decide) HC.out rfl
      refine ⟨⟨3, by decide, rfl, by rw [hs], trivial⟩, ?_⟩
      simp [intI]
    · obtain ⟨c, hc⟩ : ∃ c : Nat, c = b.toNat &&& 255 := ⟨_, rfl⟩
      have hlt : c < 256 := by rw [hc]; exact Nat.lt_of_le_of_lt Nat.and_le_right (by decide)
      have eA : Go.bits .and .u8 (b.toNat : Int) 255 = (c : Int) := by rw [hc, show (255 : Int) = ((255 : Nat) : Int) from rfl, u8_and_nat _ _ b.toNat_lt (by decide)]
      have HC := Lib.hid hc
      clear hc
      have hix := idx4 (.int .u8 170) (.int .u8 204) (.int .u8 240) (.int .u8 255) 3 3 _ rfl (by decide) rfl
      go_wp2_with (go_at_call 31; (with_reducible refine (ones8_nat c hlt _).mono ?_); rintro e w' ⟨rfl, rfl⟩)
      have hs := odd_step b.toNat 3 c 8 (by decide) HC.out rfl
      refine ⟨⟨4, by decide, rfl, by rw [hs], trivial⟩, ?_⟩
      simp [intI]
    · have h16 : oddTo b.toNat 4 < 16 := odd_lt b
      go_wp2
      go_ret
      exact ⟨rfl, rfl⟩
theorem spr_step (n k : Nat) (hk : k < 11) (hn : n < 2048) : (Go.bits .or .u32 ((sprTo n k : Nat) : Int) (Go.bits .and .u32 ((n : Int) / 2 ^ k) 1 * 2 ^ (2 * k) % 4294967296)) = ((sprTo n (k + 1) : Nat) : Int) := by
  have h1 : (n : Int) / 2 ^ k = ((n / 2 ^ k : Nat) : Int) := by simp
  have h2 : n / 2 ^ k ≤ n := Nat.div_le_self _ _
  have h3 := sprTo_lt n k
  have h4 : (2 : Nat) ^ (2 * k) ≤ 2 ^ 20 := Nat.pow_le_pow_right (by decide) (by omega)
  have h5 : n / 2 ^ k % 2 * 2 ^ (2 * k) ≤ 1 * 2 ^ (2 * k) := Nat.mul_le_mul_right _ (by omega)
  have h6 : ((n / 2 ^ k % 2 : Nat) : Int) * 2 ^ (2 * k) = ((n / 2 ^ k % 2 * 2 ^ (2 * k) : Nat) : Int) := by simp
  rw [h1, show (1 : Int) = ((1 : Nat) : Int) from rfl, u32_and_nat _ _ (by omega) (by decide), show (1 : Nat) = 2 ^ 1 - 1 from rfl, Nat.and_two_pow_sub_one_eq_mod, show (2 : Nat) ^ 1 = 2 from rfl, h6, show (((n / 2 ^ k % 2 * 2 ^ (2 * k) : Nat) : Int)) % 4294967296 = ((n / 2 ^ k % 2 * 2 ^ (2 * k) : Nat) : Int) by omega, u32_or_nat _ _ (by omega) (by omega)]
  rfl
set_option maxHeartbeats 1600000 in
theorem spread_any (n : Nat) (hn : n < 2048) (w : World) : Calls Tryd.prog 30 #[.int .u32 (n : Int)] w fun e w' => e = .returned (.int .u32 ((spr n : Nat) : Int)) ∧ w = w' := by
  go_enter Tryd.func30, Tryd.ntmps30
  go_wp2
  go_loopw [3, 5] (fun t i wr => ∃ k : Nat, k ≤ 11 ∧ i = .int .i64 k ∧ t = .int .u32 ((sprTo n k : Nat) : Int) ∧ wr = w) (fun _ i _ => 11 - (intI i))
  case atStart => exact ⟨0, by omega, rfl, rfl, rfl⟩
  case round =>
    obtain ⟨k, hk, rfl, rfl, rfl⟩ := hrel
    by_cases hlt : k < 11
    · go_wp2
      refine ⟨⟨k + 1, by omega, by go_num, ?_, trivial⟩, by simp [intI]; omega⟩
      rw [spr_step n k hlt hn]
    · obtain rfl : k = 11 := by omega
      go_wp2
      go_ret
      exact ⟨rfl, rfl⟩
end Go.Proofs.YtafjnkmfebibfaaDoor
