/- Walk of the document's Zeros; a bit of three bytes. -/
import Derived.Test.YtafjnkmfebibfaaDoorFr
namespace Go.Proofs.YtafjnkmfebibfaaDoor
open Go.RowKit
set_option linter.unusedVariables false
set_option linter.unusedSimpArgs false
set_option maxHeartbeats 800000 in
theorem refzeros_any (A : Option Addr) (len cap : Nat) (l : List UInt8) (w : World) (hl : l.length = len) (hr : Rd w A (u8s l)) (hm : len ≤ 140737488355328) :
    Calls Tryd.prog 18 #[.slice A len cap] w fun e w' => e = .returned (.int .i64 (zc l (8 * len) : Nat)) ∧ w = w' := by
  have HL := Lib.hid hl
  clear hl
  go_enter Tryd.func18, Tryd.ntmps18
  go_wp2
  go_loop [3, 4] (fun v i => ∃ k : Nat, k ≤ 8 * len ∧ i = .int .i64 k ∧ v = .int .i64 (zc l k : Nat)) (fun _ i => 8 * len - (intOf i).toNat)
  case atStart => exact ⟨0, by omega, rfl, by simp [zc]⟩
  case round =>
    obtain ⟨k, hk, rfl, rfl⟩ := hrel
    by_cases hlt : k < 8 * len
    · have hz := zc_le l k
      have hst : zc l (k + 1) = zc l k + (1 - bitAt l k) := rfl
      have hb := bitAt_lt l k
      have HS := Lib.hid hst
      clear hst
      have hlt' : (k : Int) < 8 * (len : Int) := by omega
      go_wp2_with (go_at_call 17; refine (bitR_any _ _ _ l k _ HL.out hr (by omega) (by omega)).mono ?_; rintro e w' ⟨rfl, rfl⟩)
      go_round
      case rel => exact ⟨k + 1, by omega, by go_num, by rw [HS.out]; congr 1; omega⟩
      case measure => simp [intOf]; omega
    · obtain rfl : k = 8 * len := by omega
      go_wp2
      go_ret
      exact ⟨rfl, rfl⟩
end Go.Proofs.YtafjnkmfebibfaaDoor
