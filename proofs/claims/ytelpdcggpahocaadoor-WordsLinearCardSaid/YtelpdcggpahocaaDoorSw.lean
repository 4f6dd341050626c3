/- Walks of Sum, the program's and the document's. -/
import Derived.Test.YtelpdcggpahocaaDoorW1
import Derived.Test.YtelpdcggpahocaaDoorCrc
namespace Go.Proofs.YtelpdcggpahocaaDoor
open Go.RowKit
set_option linter.unusedVariables false
set_option linter.unusedSimpArgs false
/-- The table stands. -/
def Tab (w : World) : Prop := ∀ i, i < 16 → w.cell? ⟨0, i, none⟩ = some (.int .u32 ((four i : Nat) : Int))
theorem Tab.pos {w : World} (h : Tab w) : 0 < w.heap.size := World.block_lt_of_cell? w _ (h 0 (by decide))
theorem Tab.below {w w' : World} (h : Tab w) (hb : Below w.heap.size w w') : Tab w' := fun i hi => by
  rw [World.cell?_of_block (w := w) (hb.block 0 h.pos)]; exact h i hi
theorem and15 (r : Nat) (h : r < 4294967296) : Go.bits .and .u32 (r : Int) 15 = ((r % 16 : Nat) : Int) := by
  rw [show (15 : Int) = ((15 : Nat) : Int) from rfl, u32_and_nat _ _ h (by decide), show (15 : Nat) = 2 ^ 4 - 1 from rfl, Nat.and_two_pow_sub_one_eq_mod]
theorem step4 (r : Nat) (h : r < 4294967296) : Go.bits .xor .u32 ((r : Int) / 16) ((four (r % 16) : Nat) : Int) = ((bk 4 r : Nat) : Int) := by
  rw [show (r : Int) / 16 = ((r / 16 : Nat) : Int) from by omega, u32_xor_nat _ _ (by omega) (four_lt _), four_step]
set_option maxHeartbeats 1600000 in
theorem sum_any (A : Option Addr) (n c : Nat) (l : List UInt8) (w : World) (hl : l.length = n) (hr : Rd w A (u8s l)) (hm : n ≤ 140737488355328) (hT : Tab w) :
    Calls Tryd.prog 6 #[.slice A n c] w fun e w' => e = .returned (.int .u32 ((crcN l : Nat) : Int)) ∧ w = w' := by
  have HL := Lib.hid hl
  have HT := Lib.hid hT
  clear hl hT
  go_enter Tryd.func6, Tryd.ntmps6
  go_wp2
  go_loopw [3, 8] (fun x i wr => ∃ k : Nat, k ≤ n ∧ i = .int .i64 k ∧ x = .int .u32 ((reg 4294967295 l k : Nat) : Int) ∧ wr = w) (fun _ i _ => n - (intOf i).toNat)
  case atStart => exact ⟨0, by omega, rfl, rfl, rfl⟩
  case round =>
    obtain ⟨k, hk, rfl, rfl, rfl⟩ := hrel
    by_cases hlt : k < n
    · obtain ⟨ad, e0, hc0⟩ := hr.at_ (k := k) (u8s_bt l k (by have := HL.out; omega))
      obtain rfl := e0
      have hb := (bt l k).toNat_lt
      have h0 := reg_lt (r := 4294967295) (by decide) l k
      have h1 : reg 4294967295 l k ^^^ (bt l k).toNat < 4294967296 := xor_lt h0 (by omega)
      have h2 := bk_lt h1 4
      have e1 := u32_xor_nat _ _ h0 (show (bt l k).toNat < 4294967296 by omega)
      have e9 : reg 4294967295 l (k + 1) = bk 4 (bk 4 (reg 4294967295 l k ^^^ (bt l k).toNat)) := bk_add _ 4 4
      have H9 := Lib.hid e9
      clear e9
      generalize reg 4294967295 l k ^^^ (bt l k).toNat = r1 at h1 h2 e1 H9
      have e2 := and15 r1 h1
      have e3 := step4 r1 h1
      have e4 := and15 _ h2
      have e5 := step4 _ h2
      generalize bk 4 r1 = r2 at h2 e3 e4 e5 H9
      have c1 := HT.out (r1 % 16) (by omega)
      have c2 := HT.out (r2 % 16) (by omega)
      have m1 : r1 % 16 < 16 := by omega
      have m2 : r2 % 16 < 16 := by omega
      generalize r1 % 16 = j1 at e2 e3 c1 m1
      generalize r2 % 16 = j2 at e4 e5 c2 m2
      go_wp2
      refine ⟨⟨k + 1, by omega, by go_num, by rw [H9.out], trivial⟩, ?_⟩
      simp [intOf]
      omega
    · obtain rfl : k = n := by omega
      have hlen := HL.out
      have h0 := reg_lt (r := 4294967295) (by decide) l k
      have e : ((crcN l : Nat) : Int) = Go.bits .xor .u32 IntKind.u32.max ((reg 4294967295 l k : Nat) : Int) := by
        unfold crcN
        rw [hlen, show IntKind.u32.max = ((4294967295 : Nat) : Int) from rfl, u32_xor_nat _ _ (by decide) h0, Nat.xor_comm]
      have E := Lib.hid e
      clear hlen e
      go_wp2
      go_ret
      exact ⟨by rw [E.out]; rfl, rfl⟩

set_option maxHeartbeats 1600000 in
theorem refsum_any (A : Option Addr) (n c : Nat) (l : List UInt8) (w : World) (hl : l.length = n) (hr : Rd w A (u8s l)) (hm : n ≤ 140737488355328) :
    Calls Tryd.prog 7 #[.slice A n c] w fun e w' => e = .returned (.int .u32 ((crcN l : Nat) : Int)) ∧ w = w' := by
  have HL := Lib.hid hl
  clear hl
  go_enter Tryd.func7, Tryd.ntmps7
  go_wp2
  go_loopw [3, 4] (fun x i wr => ∃ k : Nat, k ≤ n ∧ i = .int .i64 k ∧ x = .int .u32 ((reg 4294967295 l k : Nat) : Int) ∧ wr = w) (fun _ i _ => n - (intOf i).toNat)
  case atStart => exact ⟨0, by omega, rfl, rfl, rfl⟩
  case round =>
    obtain ⟨k, hk, rfl, rfl, rfl⟩ := hrel
    by_cases hlt : k < n
    · obtain ⟨ad, e0, hc0⟩ := hr.at_ (k := k) (u8s_bt l k (by have := HL.out; omega))
      obtain rfl := e0
      have hb := (bt l k).toNat_lt
      have h0 := reg_lt (r := 4294967295) (by decide) l k
      have h1 : reg 4294967295 l k ^^^ (bt l k).toNat < 4294967296 := xor_lt h0 (by omega)
      have e1 := u32_xor_nat _ _ h0 (show (bt l k).toNat < 4294967296 by omega)
      have e9 : reg 4294967295 l (k + 1) = bk 8 (reg 4294967295 l k ^^^ (bt l k).toNat) := rfl
      have H9 := Lib.hid e9
      clear e9
      generalize reg 4294967295 l k ^^^ (bt l k).toNat = r1 at h1 e1 H9
      go_wp2
      go_loopw [3, 5] (fun x i wx => ∃ j : Nat, j ≤ 8 ∧ i = .int .i64 j ∧ x = .int .u32 ((bk j r1 : Nat) : Int) ∧ wx = wr) (fun _ i _ => 8 - (intOf i).toNat)
      case atStart => exact ⟨0, by omega, rfl, rfl, rfl⟩
      case round =>
        obtain ⟨j, hj, rfl, rfl, rfl⟩ := hrel
        by_cases hlt8 : j < 8
        · have h2 := bk_lt h1 j
          have h9 : bk (j + 1) r1 = b1 (bk j r1) := rfl
          generalize bk j r1 = x at h2 h9
          have H8 := Lib.hid h9
          clear h9
          rcases Nat.mod_two_eq_zero_or_one x with hp | hp
          · have e2 : b1 x = x / 2 := b1_even hp
            have hpi : (x : Int) % 2 = 0 := by omega
            go_wp2
            refine ⟨⟨j + 1, by omega, by go_num, by rw [H8.out, e2]; go_num, trivial⟩, ?_⟩
            simp [intOf]
            omega
          · have e2 : ((b1 x : Nat) : Int) = Go.bits .xor .u32 ((x : Int) / 2) 3988292384 := by
              rw [show (x : Int) / 2 = ((x / 2 : Nat) : Int) from by omega, show (3988292384 : Int) = ((3988292384 : Nat) : Int) from rfl, u32_xor_nat _ _ (by omega) (by decide), b1_odd hp]
              rfl
            have E2 := Lib.hid e2
            have hpi : (x : Int) % 2 = 1 := by omega
            clear e2
            go_wp2
            refine ⟨⟨j + 1, by omega, by go_num, by rw [H8.out, E2.out], trivial⟩, ?_⟩
            simp [intOf]
            omega
        · obtain rfl : j = 8 := by omega
          go_wp2
          refine ⟨⟨k + 1, by omega, by go_num, by rw [H9.out], trivial⟩, ?_⟩
          simp [intOf]
          omega
    · obtain rfl : k = n := by omega
      have hlen := HL.out
      have h0 := reg_lt (r := 4294967295) (by decide) l k
      have e : ((crcN l : Nat) : Int) = Go.bits .xor .u32 ((reg 4294967295 l k : Nat) : Int) 4294967295 := by
        unfold crcN
        rw [hlen, show (4294967295 : Int) = ((4294967295 : Nat) : Int) from rfl, u32_xor_nat _ _ h0 (by decide)]
      have E := Lib.hid e
      clear hlen e
      go_wp2
      go_ret
      exact ⟨by rw [E.out]; rfl, rfl⟩
end Go.Proofs.YtelpdcggpahocaaDoor
