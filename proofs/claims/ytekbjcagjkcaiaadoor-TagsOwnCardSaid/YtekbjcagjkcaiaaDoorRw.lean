/- Walks of rail's small functions. -/
import Derived.Test.YtekbjcagjkcaiaaDoorProg
import Derived.Test.YtekbjcagjkcaiaaDoorMem
import Derived.Test.YtekbjcagjkcaiaaDoorRm
import Derived.WalkLawsBesides
import Derived.WalkSpells
import Derived.Outline
import Derived.Lib.Hide
import Derived.IntWalk
import Derived.Deep.LoopGhost
import Derived.StillTailTactics
import Derived.Deep.RegionHeld3
import Derived.Deep.DeepCutAuto
import Derived.Deep.CutBlock
namespace Go.Proofs.YtekbjcagjkcaiaaDoor
open Go.RowKit
set_option linter.unusedVariables false
set_option linter.unusedSimpArgs false
theorem info5 : (Tryd.prog.info? 5).map (fun i => (i.zero, i.size, i.bytes)) = some (some (.int .u8 0), 1, 1) := by kernel_rfl
def intI : Value → Nat
  | .int _ n => n.toNat
  | _ => 0
set_option maxHeartbeats 800000 in
theorem cols_any (A : Option Addr) (n cap : Nat) (l : List UInt8) (w : World) (hl : l.length = n) (hr : Rd w A (u8s l)) (hm : n ≤ 140737488355328) :
    Calls Tryd.prog 47 #[.slice A n cap] w fun e w' => e = .returned (.int .u8 ((colsB l).toNat : Int)) ∧ w = w' := by
  have HL := Lib.hid hl
  clear hl
  go_enter Tryd.func47, Tryd.ntmps47
  go_wp2
  go_loop [3, 8] (fun s i => ∃ k : Nat, k ≤ n ∧ i = .int .i64 k ∧ s = .int .u8 ((colsB (l.take k)).toNat : Int)) (fun _ i => n - (intOf i).toNat)
  case atStart => exact ⟨0, by omega, rfl, rfl⟩
  case round =>
    obtain ⟨k, hk, rfl, rfl⟩ := hrel
    by_cases hlt : k < n
    · obtain ⟨ad, rfl, hc⟩ := hr.at_ (k := k) (u8s_bt l k (by have := HL.out; omega))
      have hx : Go.bits .xor .u8 ((colsB (l.take k)).toNat : Int) ((bt l k).toNat : Int) = ((colsB (l.take (k + 1))).toNat : Int) := by rw [cols_step l k (by have := HL.out; omega), u8_xor_b]
      go_wp2
      go_round
      case rel => exact ⟨k + 1, by omega, by go_num, rfl⟩
      case measure => simp [intOf]; omega
    · obtain rfl : k = n := by omega
      rw [List.take_of_length_le (by have := HL.out; omega)]
      go_wp2
      go_ret
      exact ⟨rfl, rfl⟩
theorem nib_tab : ∀ b : Fin 256, Go.bits .or .u8 (Go.bits .or .u8 (Go.bits .or .u8 (Go.bits .and .u8 (b.val : Int) 1) (Go.bits .and .u8 ((b.val : Int) / 2) 2)) (Go.bits .and .u8 ((b.val : Int) / 4) 4)) (Go.bits .and .u8 ((b.val : Int) / 8) 8) = ((nibN b.val : Nat) : Int) := by decide +kernel
set_option maxHeartbeats 800000 in
theorem nibble_any (b : UInt8) (w : World) :
    Calls Tryd.prog 44 #[.int .u8 (b.toNat : Int)] w fun e w' => e = .returned (.int .u8 ((nibN b.toNat : Nat) : Int)) ∧ w = w' := by
  have hb := b.toNat_lt
  go_enter Tryd.func44, Tryd.ntmps44
  go_wp2
  go_ret
  exact ⟨congrArg (fun x => Ending.returned (Value.int .u8 x)) (nib_tab ⟨b.toNat, b.toNat_lt⟩), rfl⟩
set_option maxHeartbeats 800000 in
theorem Clip_any (A : Option Addr) (n cap : Nat) (w : World) (hc : n ≤ cap) (hm : cap ≤ maxLen) :
    Calls Tryd.prog 48 #[.slice A n cap] w fun e w' => e = .returned (.slice A n n) ∧ w = w' := by
  unfold maxLen at hm
  go_enter Tryd.func48, Tryd.ntmps48
  go_wp2
  go_ret
  exact ⟨rfl, rfl⟩
set_option maxRecDepth 100000 in
set_option maxHeartbeats 800000 in
theorem ones8_any (b : UInt8) (w : World) :
    Calls Tryd.prog 45 #[.int .u8 (b.toNat : Int)] w fun e w' => e = .returned (.int .i64 (pop b : Int)) ∧ w = w' := by
  have hb := bv_lt b
  go_enter Tryd.func45, Tryd.ntmps45
  go_wp2
  go_ret
  refine ⟨?_, rfl⟩
  show Ending.returned (Value.int IntKind.i64 (wrap64 ((popTab[b.toNat]'(by rw [popTab_size]; exact b.toNat_lt)).toNat : Nat))) = _
  rw [popTab_get _ b.toNat_lt]
  have := pop_le b
  rw [show popN b.toNat = pop b from rfl]
  congr 2
  unfold wrap64
  omega
def ntzTab : ByteArray := ⟨#[8, 0, 1, 0, 2, 0, 1, 0, 3, 0, 1, 0, 2, 0, 1, 0, 4, 0, 1, 0, 2, 0, 1, 0, 3, 0, 1, 0, 2, 0, 1, 0, 5, 0, 1, 0, 2, 0, 1, 0, 3, 0, 1, 0, 2, 0, 1, 0, 4, 0, 1, 0, 2, 0, 1, 0, 3, 0, 1, 0, 2, 0, 1, 0, 6, 0, 1, 0, 2, 0, 1, 0, 3, 0, 1, 0, 2, 0, 1, 0, 4, 0, 1, 0, 2, 0, 1, 0, 3, 0, 1, 0, 2, 0, 1, 0, 5, 0, 1, 0, 2, 0, 1, 0, 3, 0, 1, 0, 2, 0, 1, 0, 4, 0, 1, 0, 2, 0, 1, 0, 3, 0, 1, 0, 2, 0, 1, 0, 7, 0, 1, 0, 2, 0, 1, 0, 3, 0, 1, 0, 2, 0, 1, 0, 4, 0, 1, 0, 2, 0, 1, 0, 3, 0, 1, 0, 2, 0, 1, 0, 5, 0, 1, 0, 2, 0, 1, 0, 3, 0, 1, 0, 2, 0, 1, 0, 4, 0, 1, 0, 2, 0, 1, 0, 3, 0, 1, 0, 2, 0, 1, 0, 6, 0, 1, 0, 2, 0, 1, 0, 3, 0, 1, 0, 2, 0, 1, 0, 4, 0, 1, 0, 2, 0, 1, 0, 3, 0, 1, 0, 2, 0, 1, 0, 5, 0, 1, 0, 2, 0, 1, 0, 3, 0, 1, 0, 2, 0, 1, 0, 4, 0, 1, 0, 2, 0, 1, 0, 3, 0, 1, 0, 2, 0, 1, 0]⟩
set_option maxRecDepth 100000 in
theorem ntzTab_size : ntzTab.size = 256 := by decide +kernel
set_option maxRecDepth 100000 in
theorem ntzTab_brk : ∀ i : Fin 256, (ntzTab.get! (brkN i.val)).toNat = tzN (brkN i.val) := by decide +kernel
theorem ntzTab_get (b : UInt8) (h : brkN b.toNat < ntzTab.size) : (ntzTab[brkN b.toNat]'h).toNat = tzN (brkN b.toNat) := by
  rw [← ntzTab_brk ⟨b.toNat, b.toNat_lt⟩]
  show _ = (ntzTab.data[brkN b.toNat]!).toNat
  rw [getElem!_pos ntzTab.data (brkN b.toNat) h]
  rfl
set_option maxRecDepth 100000 in
set_option maxHeartbeats 800000 in
theorem tz8_any (b : UInt8) (w : World) :
    Calls Tryd.prog 46 #[.int .u8 ((brkN b.toNat : Nat) : Int)] w fun e w' => e = .returned (.int .i64 ((tzN (brkN b.toNat) : Nat) : Int)) ∧ w = w' := by
  have hb := brkN_lt b.toNat
  go_enter Tryd.func46, Tryd.ntmps46
  go_wp2
  go_ret
  refine ⟨?_, rfl⟩
  show Ending.returned (Value.int IntKind.i64 (wrap64 ((ntzTab[brkN b.toNat]'(by rw [ntzTab_size]; exact hb)).toNat : Nat))) = _
  rw [ntzTab_get]
  have := tzN_lt (brkN b.toNat)
  congr 2
  unfold wrap64
  omega
end Go.Proofs.YtekbjcagjkcaiaaDoor
