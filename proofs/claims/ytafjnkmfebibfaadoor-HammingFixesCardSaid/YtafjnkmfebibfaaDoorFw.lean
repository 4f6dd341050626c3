/- Walks of number, TrailingZeros32 and Fix. -/
import Derived.Test.YtafjnkmfebibfaaDoorHy
import Derived.Test.YtafjnkmfebibfaaDoorHp
import Derived.StillTailTactics
namespace Go.Proofs.YtafjnkmfebibfaaDoor
open Go.RowKit
set_option linter.unusedVariables false
set_option linter.unusedSimpArgs false
theorem num_nat (a b c : Nat) (ha : a < 256) (hb : b < 256) (hc : c < 256) : (a ||| b * 256) ||| c * 65536 = a + b * 256 + c * 65536 := by
  have h1 : a ||| b * 256 = a + b * 256 := by
    have h := Nat.two_pow_add_eq_or_of_lt (i := 8) (b := a) ha b
    rw [show (2 : Nat) ^ 8 = 256 from rfl, Nat.mul_comm, Nat.or_comm] at h
    rw [← h, Nat.add_comm]
  rw [h1]
  have h := Nat.two_pow_add_eq_or_of_lt (i := 16) (b := a + b * 256) (by rw [show (2 : Nat) ^ 16 = 65536 by decide]; omega) c
  rw [show (2 : Nat) ^ 16 = 65536 by decide, Nat.mul_comm, Nat.or_comm] at h
  rw [← h, Nat.add_comm]
theorem num_or (a b c : Nat) (ha : a < 256) (hb : b < 256) (hc : c < 256) : Go.bits .or .u32 (Go.bits .or .u32 (a : Int) ((b : Int) * 256)) ((c : Int) * 65536) = ((a + b * 256 + c * 65536 : Nat) : Int) := by
  have e1 := u32_or_nat a (b * 256) (by omega) (by omega)
  have hor : a ||| b * 256 = a + b * 256 := by have := num_nat a b 0 ha hb (by omega); simpa using this
  have e2 := u32_or_nat (a ||| b * 256) (c * 65536) (by rw [hor]; omega) (by omega)
  rw [num_nat a b c ha hb hc] at e2
  have a2 : ((b * 256 : Nat) : Int) = (b : Int) * 256 := by simp
  have a3 : ((c * 65536 : Nat) : Int) = (c : Int) * 65536 := by simp
  rw [a2] at e1
  rw [a3] at e2
  rw [e1, e2]
theorem tri_parts (g : Nat) (hg : g < 16777216) : ∃ a b c : Nat, a < 256 ∧ b < 256 ∧ c < 256 ∧ g = a + b * 256 + c * 65536 ∧ triC g = [.int .u8 (a : Int), .int .u8 (b : Int), .int .u8 (c : Int)] := by
  refine ⟨g % 256, g / 256 % 256, g / 65536 % 256, by omega, by omega, by omega, by omega, ?_⟩
  unfold triC
  have e0 : ((g % 256 : Nat) : Int) = (g : Int) % 256 := by omega
  have e1 : ((g / 256 % 256 : Nat) : Int) = (g : Int) / 256 % 256 := by omega
  have e2 : ((g / 65536 % 256 : Nat) : Int) = (g : Int) / 65536 % 256 := by omega
  rw [e0, e1, e2]
theorem tri_of (a b c : Nat) (ha : a < 256) (hb : b < 256) (hc : c < 256) : triC (a + b * 256 + c * 65536) = [.int .u8 (a : Int), .int .u8 (b : Int), .int .u8 (c : Int)] := by
  unfold triC
  generalize hg : a + b * 256 + c * 65536 = g
  have e0 : (g : Int) % 256 = (a : Int) := by omega
  have e1 : (g : Int) / 256 % 256 = (b : Int) := by omega
  have e2 : (g : Int) / 65536 % 256 = (c : Int) := by omega
  rw [e0, e1, e2]
set_option maxHeartbeats 1600000 in
theorem number_any (g : Nat) (hg : g < 16777216) (w : World) : Calls Tryd.prog 24 #[tri g] w fun e w' => e = .returned (.int .u32 (g : Int)) ∧ Below w.heap.size w w' := by
  obtain ⟨a, b, c, ha, hb, hc, hg2, ht⟩ := tri_parts g hg
  unfold tri
  rw [ht]
  have hb1 : Blk (w.alloc (.cells #[.int .u8 (a : Int), .int .u8 (b : Int), .int .u8 (c : Int)] 23)) w.heap.size 23 [.int .u8 (a : Int), .int .u8 (b : Int), .int .u8 (c : Int)] := Blk.new w _ _
  have c0 : (w.alloc (.cells #[.int .u8 (a : Int), .int .u8 (b : Int), .int .u8 (c : Int)] 23)).cell? ⟨w.heap.size, 0, none⟩ = some (.int .u8 (a : Int)) := by rw [hb1.cell]; rfl
  have c1 : (w.alloc (.cells #[.int .u8 (a : Int), .int .u8 (b : Int), .int .u8 (c : Int)] 23)).cell? ⟨w.heap.size, 1, none⟩ = some (.int .u8 (b : Int)) := by rw [hb1.cell]; rfl
  have c2 : (w.alloc (.cells #[.int .u8 (a : Int), .int .u8 (b : Int), .int .u8 (c : Int)] 23)).cell? ⟨w.heap.size, 2, none⟩ = some (.int .u8 (c : Int)) := by rw [hb1.cell]; rfl
  have hB : Below w.heap.size w (w.alloc (.cells #[.int .u8 (a : Int), .int .u8 (b : Int), .int .u8 (c : Int)] 23)) := (Below.refl _ _).alloc (Nat.le_refl _) _
  have hn := num_or a b c ha hb hc
  rw [← hg2] at hn
  have HN := Lib.hid hn
  clear hn hb1 hg2 ht
  go_enter Tryd.func24, Tryd.ntmps24
  go_wp2
  go_ret
  refine ⟨?_, hB⟩
  rw [← HN.out]
  rfl
/-- The table of TrailingZeros32. -/
def dbT (i : Nat) : Nat := [0, 1, 28, 2, 29, 14, 24, 3, 30, 22, 20, 15, 25, 17, 4, 8, 31, 27, 13, 23, 21, 19, 16, 7, 26, 12, 18, 6, 11, 5, 10, 9].getD i 0
def Tab (w : World) : Prop := ∀ i, i < 32 → w.cell? ⟨0, i, none⟩ = some (.int .u8 ((dbT i : Nat) : Int))
theorem Tab.pos {w : World} (h : Tab w) : 0 < w.heap.size := World.block_lt_of_cell? w _ (h 0 (by decide))
theorem Tab.below {w w' : World} (h : Tab w) (hb : Below w.heap.size w w') : Tab w' := fun i hi => by
  rw [World.cell?_of_block (w := w) (hb.block 0 h.pos)]; exact h i hi
theorem tz_tab : ∀ k : Fin 24, dbT (2 ^ k.val * 125613361 % 4294967296 / 134217728) = k.val ∧ 2 ^ k.val * 125613361 % 4294967296 / 134217728 < 32 ∧ 2 ^ k.val &&& (4294967296 - 2 ^ k.val) = 2 ^ k.val := by decide +kernel
set_option maxHeartbeats 1600000 in
theorem tz_any (x k : Nat) (hk : k < 24) (hx : x = 2 ^ k) (w : World) (hT : Tab w) : Calls Tryd.prog 27 #[.int .u32 (x : Int)] w fun e w' => e = .returned (.int .i64 (k : Int)) ∧ w = w' := by
  obtain ⟨h1, h2, h3⟩ := tz_tab ⟨k, hk⟩
  have hp : (0 : Nat) < x := by rw [hx]; exact Nat.two_pow_pos k
  have hl : x < 16777216 := by rw [hx]; exact Nat.pow_lt_pow_right (n := 24) (by decide) hk
  dsimp only at h1 h2 h3
  rw [← hx] at h1 h2 h3
  have hc := hT _ h2
  rw [h1] at hc
  have HX := Lib.hid hx
  clear hx
  have e1 : Go.bits .and .u32 (x : Int) (-(x : Int) % 4294967296) = (x : Int) := by rw [show -(x : Int) % 4294967296 = ((4294967296 - x : Nat) : Int) by omega, u32_and_nat _ _ (by omega) (by omega), h3]
  obtain ⟨i, hi⟩ : ∃ i, i = x * 125613361 % 4294967296 / 134217728 := ⟨_, rfl⟩
  have e2 : ((x : Int) * 125613361 % 4294967296 / 134217728) = (i : Int) := by rw [hi]; simp only [Int.natCast_ediv, Int.natCast_emod, Int.natCast_mul]; rfl
  rw [← hi] at h2 hc
  clear hi h1 h3 hT
  go_enter Tryd.func27, Tryd.ntmps27
  go_wp2
  go_ret
  exact ⟨rfl, rfl⟩
end Go.Proofs.YtafjnkmfebibfaaDoor
