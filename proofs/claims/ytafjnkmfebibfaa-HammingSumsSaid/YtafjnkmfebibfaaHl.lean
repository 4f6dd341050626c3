/- The law HammingSums: its walk. -/
import Derived.Test.YtafjnkmfebibfaaHy
namespace Go.Proofs.Ytafjnkmfebibfaa
open Go.RowKit
set_option linter.unusedVariables false
set_option linter.unusedSimpArgs false
theorem mks_ins {w : World} {g : Nat} {l : List UInt8} {sp : List Value} (h : Blk w g 5 (u8s (l ++ [161, 178, 195]) ++ sp)) : Blk w g 5 (u8s l ++ (u8s [161, 178, 195] ++ sp)) := by
  rw [← List.append_assoc, ← u8s_append]; exact h
theorem sumR_eq (l : List UInt8) (n : Nat) : ∃ x0 x1 x2 y : Int, sumR l n = .tuple #[.agg #[.int .u8 x0, .int .u8 x1, .int .u8 x2], .int .i64 y] := ⟨_, _, _, _, rfl⟩
theorem eq_arr3 (a b c x y z : Int) (w : World) : (Op.equalIn 10000 23 (.agg #[.int .u8 a, .int .u8 b, .int .u8 c]) (.agg #[.int .u8 x, .int .u8 y, .int .u8 z])).run Try.prog w = .ok (a == x && b == y && c == z) w := by
  have u3 := Try.underlying5
  have a3 : ∀ w, (isAgg 5).run Try.prog w = .ok false w := fun w => by kernel_rfl
  have z3 : ∀ w, (sizeOf 5).run Try.prog w = .ok 1 w := fun w => by kernel_rfl
  rw [show (10000 : Nat) = 9999 + 1 from rfl, Op.equalIn]
  simp only [Sem.run_bind, run_underlying Try.underlying23, Result.andThen_ok]
  simp only [Std.Legacy.Range.forIn_eq_forIn_range', Std.Legacy.Range.size, Nat.sub_zero, Nat.add_sub_cancel, Nat.div_one, List.range'_succ, List.range'_zero, List.forIn_cons, List.forIn_nil]
  go_simp
  by_cases h1 : a = x <;> by_cases h2 : b = y <;> by_cases h3 : c = z <;> simp [h1, h2, h3]
set_option maxHeartbeats 1600000 in
theorem hsums_walk (w : World) (A0 : Option Addr) (n c0 : Nat) (l : List UInt8) (hl : l.length = n) (hr0 : Rd w A0 (u8s l)) (hm : n ≤ 140737488351232) :
    Calls Try.prog 3 #[.slice A0 n c0] w fun e w' => e = .returned (.bool true) ∧ Below w.heap.size w w' := by
  have HL := Lib.hid hl
  clear hl
  obtain ⟨x0, x1, x2, y, hx⟩ := sumR_eq l n
  have hA := fun w1 c1 hr1 => SumR_any A0 n c1 l w1 HL.out (by omega) hr1
  have hB := fun A w1 c1 hr1 => Sum_any A n c1 l w1 HL.out (by omega) hr1
  rw [hx] at hA
  simp only [hx] at hB
  clear hx
  go_enter Try.func3, Try.ntmps3
  go_wp2_with fail
  with_reducible refine (hA _ _ hr0).mono ?_
  rintro e w1 ⟨rfl, b1⟩
  have a1 : Blk (w1.alloc (.cells #[.int .u8 x0, .int .u8 x1, .int .u8 x2] 23)) w1.heap.size 23 [.int .u8 x0, .int .u8 x1, .int .u8 x2] := Blk.new w1 _ _
  have hb2 := b1.alloc b1.size (.cells #[.int .u8 x0, .int .u8 x1, .int .u8 x2] 23)
  have hr2 := hr0.below hb2
  have hs1 := b1.size
  go_wp2_with fail
  with_reducible refine (marked_any A0 n c0 l _ HL.out hr2 hm).mono ?_
  rintro e w3 ⟨g, cp, sp, rfl, hg, hcp, hgs, b3⟩
  have a3 := a1.frm (ex := fun _ => False) (Frm.of_below b3) id
  have b4 := hb2.trans (b3.mono hb2.size)
  have hrg : Rd w3 (some ⟨g, 0, none⟩) (u8s l) := Rd.of_blk (mks_ins hg)
  obtain ⟨G1, hG1⟩ : ∃ G1, G1 = w1.heap.size := ⟨_, rfl⟩
  rw [← hG1] at a3 ⊢
  have hG2 : G1 < w3.heap.size := a3.lt
  have hG3 : w.heap.size ≤ G1 := by omega
  have hG4 : w.heap.size ≤ g := by have := hb2.size; omega
  clear a1 hr2 hb2 b1 hs1 b3 hG1 hgs
  go_wp2_with fail
  with_reducible refine (hB _ _ _ hrg).mono ?_
  rintro e w4 ⟨rfl, b5⟩
  have a5 := a3.frm (ex := fun _ => False) (Frm.of_below b5) id
  have g5 := hg.frm (ex := fun _ => False) (Frm.of_below b5) id
  have b6 := b4.trans (b5.mono b4.size)
  have a6 : Blk (w4.alloc (.cells #[.int .u8 x0, .int .u8 x1, .int .u8 x2] 23)) w4.heap.size 23 [.int .u8 x0, .int .u8 x1, .int .u8 x2] := Blk.new w4 _ _
  have a7 := a5.alloc (.cells #[.int .u8 x0, .int .u8 x1, .int .u8 x2] 23)
  have g7 := g5.alloc (.cells #[.int .u8 x0, .int .u8 x1, .int .u8 x2] 23)
  have b7 := b6.alloc b6.size (.cells #[.int .u8 x0, .int .u8 x1, .int .u8 x2] 23)
  have hr7 := hr0.below b7
  have k0 : (w4.alloc (.cells #[.int .u8 x0, .int .u8 x1, .int .u8 x2] 23)).cell? ⟨G1, 0, none⟩ = some (.int .u8 x0) := by rw [a7.cell]; rfl
  have k1 : (w4.alloc (.cells #[.int .u8 x0, .int .u8 x1, .int .u8 x2] 23)).cell? ⟨G1, 1, none⟩ = some (.int .u8 x1) := by rw [a7.cell]; rfl
  have k2 : (w4.alloc (.cells #[.int .u8 x0, .int .u8 x1, .int .u8 x2] 23)).cell? ⟨G1, 2, none⟩ = some (.int .u8 x2) := by rw [a7.cell]; rfl
  clear a3 hg b4 hrg a5 g5 b5 b6
  have hq := eq_arr3 x0 x1 x2 x0 x1 x2
  simp only [beq_self_eq_true, Bool.and_self] at hq
  go_wp2_with fail
  with_reducible refine (kept_true g n cp c0 A0 l sp _ HL.out g7 hcp hr7 hm).mono ?_
  rintro e w8 ⟨rfl, m4, hw4⟩
  go_wp2
  go_ret
  exact ⟨rfl, by exact ⟨b7.os, b7.tape, b7.output, b7.size, b7.block⟩⟩
end Go.Proofs.Ytafjnkmfebibfaa
