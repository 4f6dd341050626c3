/- The document's place: its walk. -/
import Derived.Test.YtafjnkmfebibfaaDoorGa
namespace Go.Proofs.YtafjnkmfebibfaaDoor
open Go.RowKit
set_option linter.unusedVariables false
set_option linter.unusedSimpArgs false
def plTo (d : Nat) : Nat → Nat
  | 0 => 0
  | k + 1 => plTo d k + (d / 2 ^ (2 * k + 1) % 2) * 2 ^ k
theorem plTo_lt (d : Nat) : ∀ k, plTo d k < 2 ^ k
  | 0 => by simp [plTo]
  | k + 1 => by
    have h := plTo_lt d k
    have h2 : d / 2 ^ (2 * k + 1) % 2 = 0 ∨ d / 2 ^ (2 * k + 1) % 2 = 1 := by omega
    show plTo d k + (d / 2 ^ (2 * k + 1) % 2) * 2 ^ k < 2 ^ (k + 1)
    have e : 2 ^ (k + 1) = 2 ^ k * 2 := Nat.pow_succ _ _
    rw [e]
    rcases h2 with h2 | h2 <;> rw [h2] <;> omega
/-- What place tells. -/
def PlaceIs (d : Nat) (r : Int) : Prop :=
  (r = -1 ∧ (4194304 ≤ d ∨ ∃ i, i < 11 ∧ d / 2 ^ (2 * i) % 2 = d / 2 ^ (2 * i + 1) % 2)) ∨
  (r = ((plTo d 11 : Nat) : Int) ∧ d < 4194304 ∧ ∀ i, i < 11 → d / 2 ^ (2 * i) % 2 ≠ d / 2 ^ (2 * i + 1) % 2)
theorem place_any (d : Nat) (hd : d < 16777216) (w : World) : Calls Tryd.prog 22 #[.int .i64 (d : Int)] w fun e w' => ∃ r : Int, e = .returned (.int .i64 r) ∧ PlaceIs d r ∧ w' = w := by
  by_cases hbig : 4194304 ≤ d
  · have h1 : ¬ (d : Int) / 4194304 = 0 := by omega
    go_enter Tryd.func22, Tryd.ntmps22
    go_wp2
    go_ret
    exact ⟨_, rfl, .inl ⟨rfl, .inl hbig⟩, rfl⟩
  · have h1 : (d : Int) / 4194304 = 0 := by omega
    have H1 := Lib.hid h1
    clear h1
    go_enter Tryd.func22, Tryd.ntmps22
    have h1 := H1.out
    go_wp2
    clear h1
    go_loop [3, 4] (fun a kk => ∃ k : Nat, k ≤ 11 ∧ kk = .int .i64 k ∧ a = .int .i64 ((plTo d k : Nat) : Int) ∧ ∀ i, i < k → d / 2 ^ (2 * i) % 2 ≠ d / 2 ^ (2 * i + 1) % 2) (fun _ kk => 11 - (intI kk))
    case atStart => exact ⟨0, by omega, rfl, rfl, fun i hi => by omega⟩
    case round =>
      obtain ⟨k, hk, rfl, rfl, ha⟩ := hrel
      have HA := Lib.hid ha
      clear ha
      by_cases hlt : k < 11
      · have hp := plTo_lt d k
        have hp2 : (2 : Nat) ^ k ≤ 1024 := Nat.pow_le_pow_right (n := 2) (by decide) (show k ≤ 10 by omega)
        have hd1 := fun wx => digit_any d (2 * k) (by omega) (by omega) wx
        have hd2 := fun wx => digit_any d (2 * k + 1) (by omega) (by omega) wx
        rw [show ((2 * k : Nat) : Int) = 2 * (k : Int) by omega] at hd1
        rw [show ((2 * k + 1 : Nat) : Int) = 2 * (k : Int) + 1 by omega] at hd2
        obtain ⟨x, hx⟩ : ∃ x, x = d / 2 ^ (2 * k) % 2 := ⟨_, rfl⟩
        obtain ⟨y, hy⟩ : ∃ y, y = d / 2 ^ (2 * k + 1) % 2 := ⟨_, rfl⟩
        have hy2 : y < 2 := by omega
        have hnx : plTo d (k + 1) = plTo d k + y * 2 ^ k := by rw [hy]; rfl
        rw [← hx] at hd1
        rw [← hy] at hd2
        have HX := Lib.hid hx
        have HY := Lib.hid hy
        have HN := Lib.hid hnx
        clear hx hy hnx
        by_cases hxy : x = y
        · have hxi : ((x : Nat) : Int) = y := by omega
          have HE := Lib.hid hxy
          clear hxy
          go_wp2_with (go_at_call 28; first | ((with_reducible refine (hd1 _).mono ?_); rintro e w' ⟨rfl, rfl⟩) | ((with_reducible refine (hd2 _).mono ?_); rintro e w' ⟨rfl, rfl⟩))
          go_ret
          exact ⟨_, rfl, .inl ⟨rfl, .inr ⟨k, hlt, by rw [← HX.out, ← HY.out]; exact HE.out⟩⟩, rfl⟩
        · have hxi : ¬ ((x : Nat) : Int) = y := by omega
          have HE := Lib.hid hxy
          have hys : wrap64 ((y : Int) * 2 ^ k) = ((y * 2 ^ k : Nat) : Int) := by
            have h3 : y * 2 ^ k ≤ 1 * 1024 := Nat.mul_le_mul (by omega) hp2
            rw [show (y : Int) * 2 ^ k = ((y * 2 ^ k : Nat) : Int) by simp]
            unfold wrap64; omega
          have h3 : y * 2 ^ k ≤ 1 * 1024 := Nat.mul_le_mul (by omega) hp2
          obtain ⟨z, hz⟩ : ∃ z, z = y * 2 ^ k := ⟨_, rfl⟩
          rw [← hz] at hys h3
          have HZ := Lib.hid hz
          clear hxy hz
          go_wp2_with (go_at_call 28; first | ((with_reducible refine (hd1 _).mono ?_); rintro e w' ⟨rfl, rfl⟩) | ((with_reducible refine (hd2 _).mono ?_); rintro e w' ⟨rfl, rfl⟩))
          go_round
          case rel => exact ⟨k + 1, by omega, by go_num, by rw [HN.out, ← HZ.out]; go_num, fun i hi => by
            rcases Nat.lt_or_ge i k with h4 | h4
            · exact HA.out i h4
            · obtain rfl : i = k := by omega
              rw [← HX.out, ← HY.out]; exact HE.out⟩
          case measure => simp [intI]; omega
      · obtain rfl : k = 11 := by omega
        go_wp2
        go_ret
        exact ⟨_, rfl, .inr ⟨rfl, by omega, HA.out⟩, rfl⟩
end Go.Proofs.YtafjnkmfebibfaaDoor
