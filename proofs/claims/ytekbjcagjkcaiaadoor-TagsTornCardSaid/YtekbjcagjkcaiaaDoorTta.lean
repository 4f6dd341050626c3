/- Plain words on turned bits and rests (of rail's own), for the laws on tags. -/
import Derived.Test.YtekbjcagjkcaiaaDoorRp
namespace Go.Proofs.YtekbjcagjkcaiaaDoor
open Go.RowKit
set_option linter.unusedVariables false
set_option linter.unusedSimpArgs false
def restN (x : Int) (k : Nat) : Nat := (x % k).toNat
theorem restN_lt (x : Int) (k : Nat) (hk : 0 < k) : restN x k < k := by
  unfold restN
  have h1 := Int.emod_nonneg x (show (k : Int) ≠ 0 by omega)
  have h2 := Int.emod_lt_of_pos x (show (0 : Int) < k by omega)
  omega
/-- In how many of the first N bits two rows differ. -/
def apB (a b : List UInt8) (N : Nat) : Nat := (bt a (N / 8) ^^^ bt b (N / 8)).toNat / 2 ^ (N % 8) % 2
def apTo (a b : List UInt8) : Nat → Nat
  | 0 => 0
  | N + 1 => apTo a b N + apB a b N
theorem apTo_le (a b : List UInt8) : ∀ N, apTo a b N ≤ N
  | 0 => Nat.le_refl _
  | N + 1 => by have := apTo_le a b N; have h : apB a b N < 2 := Nat.mod_lt _ (by decide); rw [apTo]; omega
theorem u8_and1 (x : UInt8) (k : Nat) : Go.bits .and .u8 ((x.toNat : Int) / 2 ^ k) 1 = ((x.toNat / 2 ^ k % 2 : Nat) : Int) := by
  have hb := x.toNat_lt
  have e1 : (x.toNat : Int) / 2 ^ k = ((x.toNat / 2 ^ k : Nat) : Int) := by simp
  have h2 : x.toNat / 2 ^ k ≤ x.toNat := Nat.div_le_self _ _
  rw [e1, show (1 : Int) = ((1 : Nat) : Int) from rfl, u8_and_nat _ _ (by omega) (by decide), show (1 : Nat) = 2 ^ 1 - 1 from rfl, Nat.and_two_pow_sub_one_eq_mod]
end Go.Proofs.YtekbjcagjkcaiaaDoor
