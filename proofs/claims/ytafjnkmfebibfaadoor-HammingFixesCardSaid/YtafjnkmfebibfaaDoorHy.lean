/- Walks of the sum of a sector: the document's. -/
import Derived.Test.YtafjnkmfebibfaaDoorHx
namespace Go.Proofs.YtafjnkmfebibfaaDoor
open Go.RowKit
set_option linter.unusedVariables false
set_option linter.unusedSimpArgs false
theorem eTo_lt (n s : Nat) (hs : s < 16777216) : ∀ k, k ≤ 11 → eTo n s k < 16777216
  | 0, _ => hs
  | k + 1, h => by
    have h1 := eTo_lt n s hs k (by omega)
    refine Nat.xor_lt_two_pow (n := 24) h1 (Nat.pow_lt_pow_right (by decide) (by omega))
theorem refN_lt (l : List UInt8) : ∀ N, refN l N < 16777216
  | 0 => by show (12582912 : Nat) < _; decide
  | N + 1 => by
    simp only [refN]
    split
    · exact eTo_lt N _ (refN_lt l N) 11 (by decide)
    · exact refN_lt l N
theorem and1 (x : Nat) (hx : x < 9223372036854775808) : Go.bits .and .i64 (x : Int) 1 = ((x % 2 : Nat) : Int) := by
  rw [show (1 : Int) = ((1 : Nat) : Int) from rfl, i64_and_nat _ _ hx (by decide), show (1 : Nat) = 2 ^ 1 - 1 from rfl, Nat.and_two_pow_sub_one_eq_mod]
theorem bitR_any (A : Option Addr) (len cap : Nat) (l : List UInt8) (n : Nat) (w : World) (hl : l.length = len) (hr : Rd w A (u8s l)) (hn : n < 8 * len) (hm : len ≤ 140737488355328) :
    Calls Tryd.prog 17 #[.slice A len cap, .int .i64 n] w fun e w' => e = .returned (.int .i64 (bitAt l n : Nat)) ∧ w = w' := by
  have HL := Lib.hid hl
  clear hl
  obtain ⟨ad, rfl, hc⟩ := hr.at_ (k := n / 8) (u8s_bt l (n / 8) (by have := HL.out; omega))
  have hlt : n / 8 < len := by omega
  have hb := bv_lt (bt l (n / 8))
  clear hr
  go_enter Tryd.func17, Tryd.ntmps17
  go_wp2
  go_ret
  refine ⟨?_, rfl⟩
  show Ending.returned (Value.int IntKind.i64 _) = _
  congr 2
  have h1 := (bt l (n / 8)).toNat_lt
  have h2 : (bt l (n / 8)).toNat / 2 ^ (n % 8) ≤ (bt l (n / 8)).toNat := Nat.div_le_self _ _
  have h3 : (((bt l (n / 8)).toNat : Nat) : Int) / 2 ^ (n % 8) = (((bt l (n / 8)).toNat / 2 ^ (n % 8) : Nat) : Int) := by simp
  rw [h3]
  show _ = (((bt l (n / 8)).toNat / 2 ^ (n % 8) % 2 : Nat) : Int)
  generalize (bt l (n / 8)).toNat / 2 ^ (n % 8) = q at *
  rw [show wrap64 (q : Int) = (q : Int) by unfold wrap64; omega, and1 _ (by omega)]
theorem digit_any (n i : Nat) (hn : n < 4611686018427387904) (hi : i < 64) (w : World) :
    Calls Tryd.prog 28 #[.int .i64 n, .int .i64 i] w fun e w' => e = .returned (.int .i64 ((n / 2 ^ i % 2 : Nat) : Int)) ∧ w = w' := by
  go_enter Tryd.func28, Tryd.ntmps28
  go_wp2
  go_ret
  refine ⟨?_, rfl⟩
  show Ending.returned (Value.int IntKind.i64 _) = _
  have h2 : n / 2 ^ i ≤ n := Nat.div_le_self _ _
  have h3 : (n : Int) / 2 ^ i = ((n / 2 ^ i : Nat) : Int) := by simp
  rw [h3, and1 _ (by omega)]
theorem small_wrap (q : Nat) (h : q < 4194304) : wrap64 (q : Int) = (q : Int) := by unfold wrap64; omega
theorem ref_step (s k N : Nat) (hs : s < 16777216) (hk : k < 11) : Go.bits .xor .i64 (s : Int) (wrap64 (2 ^ (2 * (k : Int) + (N : Int) / 2 ^ k % 2).toNat)) = ((s ^^^ 2 ^ (2 * k + N / 2 ^ k % 2) : Nat) : Int) := by
  have e0 : (N : Int) / 2 ^ k = ((N / 2 ^ k : Nat) : Int) := by simp
  have e1 : (2 * (k : Int) + (N : Int) / 2 ^ k % 2).toNat = 2 * k + N / 2 ^ k % 2 := by rw [e0]; generalize N / 2 ^ k = q; omega
  rw [e1]
  obtain ⟨m, hm⟩ : ∃ m, m = 2 * k + N / 2 ^ k % 2 := ⟨_, rfl⟩
  have hm1 : m < 22 := by omega
  rw [← hm]
  clear hm e1 e0
  have e3 : (2 : Int) ^ m = ((2 ^ m : Nat) : Int) := by simp
  rw [e3]
  have e2 : 2 ^ m < 4194304 := Nat.lt_of_lt_of_le (Nat.pow_lt_pow_right (by decide) hm1) (Nat.le_refl _)
  generalize 2 ^ m = q at *
  rw [small_wrap q e2]
  exact i64_xor_nat s q (by omega) (by omega)
set_option maxRecDepth 10000 in
set_option maxHeartbeats 1600000 in
theorem sumR_any (A : Option Addr) (n cap : Nat) (l : List UInt8) (w : World) (hl : l.length = n) (hn : n = 256) (hr : Rd w A (u8s l)) :
    Calls Tryd.prog 19 #[.slice A n cap] w fun e w' => e = .returned (.int .i64 ((sumN l : Nat) : Int)) ∧ w = w' := by
  have HN := Lib.hid hn
  have hend : refN l 2048 = sumN l := ref_pack l 2048 (Nat.le_refl _)
  rw [← hend]
  have HE := Lib.hid hend
  clear hn hend
  go_enter Tryd.func19, Tryd.ntmps19
  go_wp2
  go_loopw [3, 4] (fun s i wr => ∃ N : Nat, N ≤ 2048 ∧ i = .int .i64 N ∧ s = .int .i64 ((refN l N : Nat) : Int) ∧ wr = w) (fun _ i _ => 2048 - (intI i))
  case atStart => exact ⟨0, by omega, rfl, rfl, rfl⟩
  case round =>
    obtain ⟨N, hN, rfl, rfl, rfl⟩ := hrel
    by_cases hlt : N < 2048
    · have hb := bitR_any A n cap l N
      have hbl : bitAt l N = 0 ∨ bitAt l N = 1 := by unfold bitAt; omega
      have hnx : refN l (N + 1) = if bitAt l N = 1 then eTo N (refN l N) 11 else refN l N := rfl
      have hrl := refN_lt l N
      generalize bitAt l N = b at hb hbl hnx
      rcases hbl with rfl | rfl
      · have HX := Lib.hid hnx
        clear hnx
        go_wp2_with (go_at_call 17; (with_reducible refine (hb _ hl hr (by have := HN.out; omega) (by have := HN.out; omega)).mono ?_); rintro e w' ⟨rfl, rfl⟩)
        refine ⟨⟨N + 1, hlt, rfl, ?_, trivial⟩, by simp [intI]; omega⟩
        rw [HX.out, if_neg (by decide)]
      · have HX := Lib.hid hnx
        clear hnx
        go_wp2_with (go_at_call 17; (with_reducible refine (hb _ hl hr (by have := HN.out; omega) (by have := HN.out; omega)).mono ?_); rintro e w' ⟨rfl, rfl⟩)
        clear hb
        have hel := eTo_lt N (refN l N) hrl
        have hes : eTo N (refN l N) 0 = refN l N := rfl
        have hst : ∀ k, eTo N (refN l N) (k + 1) = eTo N (refN l N) k ^^^ 2 ^ (2 * k + N / 2 ^ k % 2) := fun k => rfl
        generalize eTo N (refN l N) = f at *
        generalize refN l N = s0 at *
        go_loopw [3, 5] (fun s i wq => ∃ k : Nat, k ≤ 11 ∧ i = .int .i64 k ∧ s = .int .i64 ((f k : Nat) : Int) ∧ wq = wr) (fun _ i _ => 11 - (intI i))
        case atStart => exact ⟨0, by omega, rfl, by rw [hes], rfl⟩
        case round =>
          obtain ⟨k, hk, rfl, rfl, rfl⟩ := hrel
          by_cases hk1 : k < 11
          · have hs := hst k
            have hf := hel k hk
            have HS := Lib.hid hs
            clear hs hst hes hel
            go_wp2_with (go_at_call 28; (with_reducible refine (digit_any N k (by omega) (by omega) _).mono ?_); rintro e w' ⟨rfl, rfl⟩)
            refine ⟨⟨k + 1, hk1, rfl, ?_, trivial⟩, by simp [intI]; omega⟩
            rw [ref_step _ k N hf hk1, HS.out]
          · obtain rfl : k = 11 := by omega
            have hf := hel 11 hk
            go_wp2
            refine ⟨⟨N + 1, hlt, rfl, ?_, trivial⟩, by simp [intI]; omega⟩
            rw [HX.out, if_pos trivial]
    · have hE : refN l N = refN l 2048 := by rw [show N = 2048 by omega]
      have hrl := refN_lt l N
      have HF := Lib.hid hE
      clear hE
      generalize refN l N = s at *
      go_wp2
      go_ret
      exact ⟨by rw [← HF.out]; rfl, rfl⟩
theorem and255 (x : Nat) (hx : x < 9223372036854775808) : Go.bits .and .i64 (x : Int) 255 = ((x % 256 : Nat) : Int) := by
  rw [show (255 : Int) = ((255 : Nat) : Int) from rfl, i64_and_nat _ _ hx (by decide), show (255 : Nat) = 2 ^ 8 - 1 from rfl, Nat.and_two_pow_sub_one_eq_mod]
set_option maxHeartbeats 800000 in
theorem bytesR_any (n : Nat) (hn : n < 4611686018427387904) (w : World) : Calls Tryd.prog 21 #[.int .i64 (n : Int)] w fun e w' => e = .returned (tri n) ∧ Below w.heap.size w w' := by
  have e0 := and255 n (by omega)
  have e1 := and255 (n / 256) (by omega)
  have e2 := and255 (n / 65536) (by omega)
  rw [show ((n % 256 : Nat) : Int) = (n : Int) % 256 by omega] at e0
  rw [show ((n / 256 % 256 : Nat) : Int) = (n : Int) / 256 % 256 by omega, show ((n / 256 : Nat) : Int) = (n : Int) / 256 by omega] at e1
  rw [show ((n / 65536 % 256 : Nat) : Int) = (n : Int) / 65536 % 256 by omega, show ((n / 65536 : Nat) : Int) = (n : Int) / 65536 by omega] at e2
  go_enter Tryd.func21, Tryd.ntmps21
  go_wp2
  refine bodyPost_ret (results_cell_row rfl _ _ w.heap.size 23 (triC n).toArray (0, 0) _ rfl (Blk.new w 23 (triC n)) Tryd.underlying23 rfl (by kernel_rfl)) rfl ?_
  exact ⟨rfl, (Below.refl _ _).alloc (Nat.le_refl _) _⟩
end Go.Proofs.YtafjnkmfebibfaaDoor
