/- The document's one and place: their walks. -/
import Derived.Test.YtafjnkmfebibfaaDoorHy
namespace Go.Proofs.YtafjnkmfebibfaaDoor
open Go.RowKit
set_option linter.unusedVariables false
set_option linter.unusedSimpArgs false
theorem two_bits (d j k : Nat) (hj : j < k) (h : d % 2 ^ k = 2 ^ j) (hk : d / 2 ^ k % 2 = 1) : ∀ i, d ≠ 2 ^ i := by
  intro i e
  have h1 : d.testBit j = true := by
    have := congrArg (Nat.testBit · j) h
    simpa [Nat.testBit_mod_two_pow, hj] using this
  have h2 : d.testBit k = true := by rw [Nat.testBit_eq_decide_div_mod_eq]; simp [hk]
  subst e
  rw [Nat.testBit_two_pow] at h1 h2
  simp at h1 h2
  omega
theorem mod_next (d k : Nat) : d % 2 ^ (k + 1) = d % 2 ^ k + 2 ^ k * (d / 2 ^ k % 2) := Nat.mod_pow_succ
/-- What one tells. -/
def OneIs (d : Nat) (r : Int) : Prop := (r = -1 ∧ ((∀ i, d ≠ 2 ^ i) ∨ d = 0)) ∨ ∃ j : Nat, j < 24 ∧ r = j ∧ d = 2 ^ j
theorem one_any (d : Nat) (hd : d < 16777216) (w : World) : Calls Tryd.prog 20 #[.int .i64 (d : Int)] w fun e w' => ∃ r : Int, e = .returned (.int .i64 r) ∧ OneIs d r ∧ w' = w := by
  go_enter Tryd.func20, Tryd.ntmps20
  go_wp2
  go_loop [3, 4] (fun a kk => ∃ k : Nat, k ≤ 24 ∧ kk = .int .i64 k ∧ ((a = .int .i64 (-1) ∧ d % 2 ^ k = 0) ∨ ∃ j : Nat, j < k ∧ a = .int .i64 (j : Int) ∧ d % 2 ^ k = 2 ^ j)) (fun _ kk => 24 - (intI kk))
  case atStart => exact ⟨0, by omega, rfl, .inl ⟨rfl, Nat.mod_one d⟩⟩
  case round =>
    obtain ⟨k, hk, rfl, ha⟩ := hrel
    by_cases hlt : k < 24
    · have hmn := mod_next d k
      have hd1 : d / 2 ^ k % 2 = 0 ∨ d / 2 ^ k % 2 = 1 := by omega
      have HMN := Lib.hid hmn
      clear hmn
      rcases hd1 with hd1 | hd1
      · have hz : ((d / 2 ^ k % 2 : Nat) : Int) = 0 := by omega
        have HZ := Lib.hid hz
        have HD1 := Lib.hid hd1
        clear hz hd1
        go_wp2_with (go_at_call 28; (with_reducible refine (digit_any d k (by omega) (by omega) _).mono ?_); rintro e w' ⟨rfl, rfl⟩; rw [HZ.out])
        go_round
        case rel => exact ⟨k + 1, by omega, by go_num, by rw [HMN.out, HD1.out, Nat.mul_zero, Nat.add_zero]; exact ha.imp id (fun ⟨j, h1, h2⟩ => ⟨j, by omega, h2⟩)⟩
        case measure => simp [intI]; omega
      · have hz : ((d / 2 ^ k % 2 : Nat) : Int) = 1 := by omega
        have HZ := Lib.hid hz
        have HD1 := Lib.hid hd1
        clear hz hd1
        rcases ha with ⟨rfl, h0⟩ | ⟨j, hj, rfl, h0⟩
        · have H0 := Lib.hid h0
          clear h0
          go_wp2_with (go_at_call 28; (with_reducible refine (digit_any d k (by omega) (by omega) _).mono ?_); rintro e w' ⟨rfl, rfl⟩; rw [HZ.out])
          go_round
          case rel => exact ⟨k + 1, by omega, by go_num, .inr ⟨k, by omega, rfl, by rw [HMN.out, HD1.out, H0.out]; omega⟩⟩
          case measure => simp [intI]; omega
        · have htb := two_bits d j k hj h0 HD1.out
          have HT := Lib.hid htb
          clear htb h0
          go_wp2_with (go_at_call 28; (with_reducible refine (digit_any d k (by omega) (by omega) _).mono ?_); rintro e w' ⟨rfl, rfl⟩; rw [HZ.out])
          go_ret
          exact ⟨_, rfl, .inl ⟨rfl, .inl HT.out⟩, rfl⟩
    · obtain rfl : k = 24 := by omega
      have hm : d % 2 ^ 24 = d := Nat.mod_eq_of_lt (by omega)
      rw [hm] at ha
      rcases ha with ⟨rfl, h0⟩ | ⟨j, hj, rfl, h0⟩
      · have H0 := Lib.hid h0
        clear h0 hm
        go_wp2
        go_ret
        exact ⟨_, rfl, .inl ⟨rfl, .inr H0.out⟩, rfl⟩
      · have H0 := Lib.hid h0
        clear h0 hm
        go_wp2
        go_ret
        exact ⟨_, rfl, .inr ⟨j, hj, rfl, H0.out⟩, rfl⟩
end Go.Proofs.YtafjnkmfebibfaaDoor
