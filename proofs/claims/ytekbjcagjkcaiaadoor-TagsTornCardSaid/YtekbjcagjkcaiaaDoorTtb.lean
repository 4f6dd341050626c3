/- What is told of tags on rails: walks of told. -/
import Derived.Test.YtekbjcagjkcaiaaDoorTba
import Derived.Test.YtekbjcagjkcaiaaDoorTRv
namespace Go.Proofs.YtekbjcagjkcaiaaDoor
open Go.RowKit
set_option linter.unusedVariables false
set_option linter.unusedSimpArgs false
set_option maxRecDepth 100000 in
set_option maxHeartbeats 3200000 in
theorem told_0 (x0 x1 x2 x3 x4 x5 x6 x7 : Int) (A : Option Addr) (c : Nat) (l : List UInt8) (hf : ∀ w, Rd w A (u8s l) → LayT w → Calls Tryd.prog 17 #[.slice A 54 c] w fun e w' => e = .returned (.tuple #[.agg #[.int .i64 x0, .int .i64 x1, .int .u64 x2, .int .u64 x3, .int .i64 x4, .int .i64 x5, .int .i64 x6, .int .i64 x7], .int .i64 (-1), .int .i64 0]) ∧ Below w.heap.size w w') (w : World) (hr : Rd w A (u8s l)) (hL : LayT w) :
    Calls Tryd.prog 25 #[.agg #[.int .i64 x0, .int .i64 x1, .int .u64 x2, .int .u64 x3, .int .i64 x4, .int .i64 x5, .int .i64 x6, .int .i64 x7], .slice A 54 c, .int .i64 0] w fun e w' => e = .returned (.bool true) ∧ Below w.heap.size w w' := by
  have HF := Lib.hid hf
  have HL := Lib.hid hL
  clear hf hL
  obtain ⟨w1, hw1⟩ : ∃ x, x = w.alloc (.cells #[.int .i64 x0, .int .i64 x1, .int .u64 x2, .int .u64 x3, .int .i64 x4, .int .i64 x5, .int .i64 x6, .int .i64 x7] 25) := ⟨_, rfl⟩
  have b : Below w.heap.size w w1 := by rw [hw1]; exact (Below.refl _ w).alloc (Nat.le_refl _) _
  have kt : Blk w1 w.heap.size 25 [.int .i64 x0, .int .i64 x1, .int .u64 x2, .int .u64 x3, .int .i64 x4, .int .i64 x5, .int .i64 x6, .int .i64 x7] := by rw [hw1]; exact Blk.new w _ _
  have r1 := hr.below b
  obtain ⟨G, hG⟩ : ∃ G, G = w.heap.size := ⟨_, rfl⟩
  rw [← hG] at kt
  clear hr
  go_enter Tryd.func25, Tryd.ntmps25
  go_wp2_with fail
  rw [← hw1, ← hG]
  clear hw1 hG
  with_reducible refine (HF.out _ r1 (HL.out.below b)).mono ?_
  rintro e w2 ⟨rfl, b2⟩
  replace kt := kt.frm (ex := fun _ => False) (Frm.of_below b2) id
  replace b := b.trans (b2.mono b.size)
  clear b2 r1
  go_upto_region 2 with fail
  obtain ⟨w3, hw3⟩ : ∃ x, x = w2.alloc (.cells #[.int .i64 x0, .int .i64 x1, .int .u64 x2, .int .u64 x3, .int .i64 x4, .int .i64 x5, .int .i64 x6, .int .i64 x7] 25) := ⟨_, rfl⟩
  have ku : Blk w3 w2.heap.size 25 [.int .i64 x0, .int .i64 x1, .int .u64 x2, .int .u64 x3, .int .i64 x4, .int .i64 x5, .int .i64 x6, .int .i64 x7] := by rw [hw3]; exact Blk.new w2 _ _
  replace kt : Blk w3 G 25 [.int .i64 x0, .int .i64 x1, .int .u64 x2, .int .u64 x3, .int .i64 x4, .int .i64 x5, .int .i64 x6, .int .i64 x7] := by rw [hw3]; exact kt.alloc _
  replace b : Below w.heap.size w w3 := by rw [hw3]; exact b.alloc b.size _
  rw [← hw3]
  obtain ⟨Q, hQ⟩ : ∃ Q, Q = w2.heap.size := ⟨_, rfl⟩
  rw [← hQ] at ku ⊢
  clear hw3 hQ
  have c0 : w3.cell? ⟨G, 0, none⟩ = some (.int .i64 x0) := kt.cell 0
  have c1 : w3.cell? ⟨G, 1, none⟩ = some (.int .i64 x1) := kt.cell 1
  have c2 : w3.cell? ⟨G, 2, none⟩ = some (.int .u64 x2) := kt.cell 2
  have c3 : w3.cell? ⟨G, 3, none⟩ = some (.int .u64 x3) := kt.cell 3
  have c4 : w3.cell? ⟨G, 4, none⟩ = some (.int .i64 x4) := kt.cell 4
  have c5 : w3.cell? ⟨G, 5, none⟩ = some (.int .i64 x5) := kt.cell 5
  have c6 : w3.cell? ⟨G, 6, none⟩ = some (.int .i64 x6) := kt.cell 6
  have c7 : w3.cell? ⟨G, 7, none⟩ = some (.int .i64 x7) := kt.cell 7
  have d0 : w3.cell? ⟨Q, 0, none⟩ = some (.int .i64 x0) := ku.cell 0
  have d1 : w3.cell? ⟨Q, 1, none⟩ = some (.int .i64 x1) := ku.cell 1
  have d2 : w3.cell? ⟨Q, 2, none⟩ = some (.int .u64 x2) := ku.cell 2
  have d3 : w3.cell? ⟨Q, 3, none⟩ = some (.int .u64 x3) := ku.cell 3
  have d4 : w3.cell? ⟨Q, 4, none⟩ = some (.int .i64 x4) := ku.cell 4
  have d5 : w3.cell? ⟨Q, 5, none⟩ = some (.int .i64 x5) := ku.cell 5
  have d6 : w3.cell? ⟨Q, 6, none⟩ = some (.int .i64 x6) := ku.cell 6
  have d7 : w3.cell? ⟨Q, 7, none⟩ = some (.int .i64 x7) := ku.cell 7
  go_wp2_with (go_at_call 13; (with_reducible refine (no_any _ _).mono ?_); rintro e w' ⟨rfl, rfl⟩)
  with_reducible refine (same_tags _ _ _ _ _ _ _ _ _).mono ?_
  rintro e w4 ⟨rfl, b2⟩
  replace b := b.trans (b2.mono b.size)
  clear kt ku b2
  clear c0 c1 c2 c3 c4 c5 c6 c7
  clear d0 d1 d2 d3 d4 d5 d6 d7
  go_wp2
  go_ret
  exact ⟨rfl, b⟩
set_option maxRecDepth 100000 in
set_option maxHeartbeats 3200000 in
theorem told_1 (x0 x1 x2 x3 x4 x5 x6 x7 : Int) (t : Int) (ht : 0 ≤ t) (A : Option Addr) (c : Nat) (l : List UInt8) (hf : ∀ w, Rd w A (u8s l) → LayT w → Calls Tryd.prog 17 #[.slice A 54 c] w fun e w' => e = .returned (.tuple #[.agg #[.int .i64 x0, .int .i64 x1, .int .u64 x2, .int .u64 x3, .int .i64 x4, .int .i64 x5, .int .i64 x6, .int .i64 x7], .int .i64 t, .int .i64 0]) ∧ Below w.heap.size w w') (w : World) (hr : Rd w A (u8s l)) (hL : LayT w) :
    Calls Tryd.prog 25 #[.agg #[.int .i64 x0, .int .i64 x1, .int .u64 x2, .int .u64 x3, .int .i64 x4, .int .i64 x5, .int .i64 x6, .int .i64 x7], .slice A 54 c, .int .i64 1] w fun e w' => e = .returned (.bool true) ∧ Below w.heap.size w w' := by
  have HF := Lib.hid hf
  have HL := Lib.hid hL
  clear hf hL
  obtain ⟨w1, hw1⟩ : ∃ x, x = w.alloc (.cells #[.int .i64 x0, .int .i64 x1, .int .u64 x2, .int .u64 x3, .int .i64 x4, .int .i64 x5, .int .i64 x6, .int .i64 x7] 25) := ⟨_, rfl⟩
  have b : Below w.heap.size w w1 := by rw [hw1]; exact (Below.refl _ w).alloc (Nat.le_refl _) _
  have kt : Blk w1 w.heap.size 25 [.int .i64 x0, .int .i64 x1, .int .u64 x2, .int .u64 x3, .int .i64 x4, .int .i64 x5, .int .i64 x6, .int .i64 x7] := by rw [hw1]; exact Blk.new w _ _
  have r1 := hr.below b
  obtain ⟨G, hG⟩ : ∃ G, G = w.heap.size := ⟨_, rfl⟩
  rw [← hG] at kt
  clear hr
  go_enter Tryd.func25, Tryd.ntmps25
  go_wp2_with fail
  rw [← hw1, ← hG]
  clear hw1 hG
  with_reducible refine (HF.out _ r1 (HL.out.below b)).mono ?_
  rintro e w2 ⟨rfl, b2⟩
  replace kt := kt.frm (ex := fun _ => False) (Frm.of_below b2) id
  replace b := b.trans (b2.mono b.size)
  clear b2 r1
  go_upto_region 2 with fail
  obtain ⟨w3, hw3⟩ : ∃ x, x = w2.alloc (.cells #[.int .i64 x0, .int .i64 x1, .int .u64 x2, .int .u64 x3, .int .i64 x4, .int .i64 x5, .int .i64 x6, .int .i64 x7] 25) := ⟨_, rfl⟩
  have ku : Blk w3 w2.heap.size 25 [.int .i64 x0, .int .i64 x1, .int .u64 x2, .int .u64 x3, .int .i64 x4, .int .i64 x5, .int .i64 x6, .int .i64 x7] := by rw [hw3]; exact Blk.new w2 _ _
  replace kt : Blk w3 G 25 [.int .i64 x0, .int .i64 x1, .int .u64 x2, .int .u64 x3, .int .i64 x4, .int .i64 x5, .int .i64 x6, .int .i64 x7] := by rw [hw3]; exact kt.alloc _
  replace b : Below w.heap.size w w3 := by rw [hw3]; exact b.alloc b.size _
  rw [← hw3]
  obtain ⟨Q, hQ⟩ : ∃ Q, Q = w2.heap.size := ⟨_, rfl⟩
  rw [← hQ] at ku ⊢
  clear hw3 hQ
  have c0 : w3.cell? ⟨G, 0, none⟩ = some (.int .i64 x0) := kt.cell 0
  have c1 : w3.cell? ⟨G, 1, none⟩ = some (.int .i64 x1) := kt.cell 1
  have c2 : w3.cell? ⟨G, 2, none⟩ = some (.int .u64 x2) := kt.cell 2
  have c3 : w3.cell? ⟨G, 3, none⟩ = some (.int .u64 x3) := kt.cell 3
  have c4 : w3.cell? ⟨G, 4, none⟩ = some (.int .i64 x4) := kt.cell 4
  have c5 : w3.cell? ⟨G, 5, none⟩ = some (.int .i64 x5) := kt.cell 5
  have c6 : w3.cell? ⟨G, 6, none⟩ = some (.int .i64 x6) := kt.cell 6
  have c7 : w3.cell? ⟨G, 7, none⟩ = some (.int .i64 x7) := kt.cell 7
  have d0 : w3.cell? ⟨Q, 0, none⟩ = some (.int .i64 x0) := ku.cell 0
  have d1 : w3.cell? ⟨Q, 1, none⟩ = some (.int .i64 x1) := ku.cell 1
  have d2 : w3.cell? ⟨Q, 2, none⟩ = some (.int .u64 x2) := ku.cell 2
  have d3 : w3.cell? ⟨Q, 3, none⟩ = some (.int .u64 x3) := ku.cell 3
  have d4 : w3.cell? ⟨Q, 4, none⟩ = some (.int .i64 x4) := ku.cell 4
  have d5 : w3.cell? ⟨Q, 5, none⟩ = some (.int .i64 x5) := ku.cell 5
  have d6 : w3.cell? ⟨Q, 6, none⟩ = some (.int .i64 x6) := ku.cell 6
  have d7 : w3.cell? ⟨Q, 7, none⟩ = some (.int .i64 x7) := ku.cell 7
  go_wp2_with (go_at_call 13; (with_reducible refine (no_any _ _).mono ?_); rintro e w' ⟨rfl, rfl⟩)
  with_reducible refine (same_tags _ _ _ _ _ _ _ _ _).mono ?_
  rintro e w4 ⟨rfl, b2⟩
  replace b := b.trans (b2.mono b.size)
  clear kt ku b2
  clear c0 c1 c2 c3 c4 c5 c6 c7
  clear d0 d1 d2 d3 d4 d5 d6 d7
  go_wp2
  go_ret
  have htb : (!(t == -1)) = true := by simp; omega
  exact ⟨congrArg (fun z => Ending.returned (Value.bool z)) htb, b⟩
set_option maxRecDepth 100000 in
set_option maxHeartbeats 3200000 in
theorem told_2 (x0 x1 x2 x3 x4 x5 x6 x7 : Int) (n : Int) (hn : 1 < n) (A : Option Addr) (c : Nat) (l : List UInt8) (hl : l.length = 54) (hR : readR l = ([], 0, 30)) (w : World) (hr : Rd w A (u8s l)) :
    Calls Tryd.prog 25 #[.agg #[.int .i64 x0, .int .i64 x1, .int .u64 x2, .int .u64 x3, .int .i64 x4, .int .i64 x5, .int .i64 x6, .int .i64 x7], .slice A 54 c, .int .i64 n] w fun e w' => e = .returned (.bool true) ∧ Below w.heap.size w w' := by
  have hf := fun wx hrx => Lift_err A 54 c l [] 0 30 wx hl rfl hrx hR (by decide)
  unfold tagZ at hf
  have HF := Lib.hid hf
  clear hf hR hl
  obtain ⟨w1, hw1⟩ : ∃ x, x = w.alloc (.cells #[.int .i64 x0, .int .i64 x1, .int .u64 x2, .int .u64 x3, .int .i64 x4, .int .i64 x5, .int .i64 x6, .int .i64 x7] 25) := ⟨_, rfl⟩
  have b : Below w.heap.size w w1 := by rw [hw1]; exact (Below.refl _ w).alloc (Nat.le_refl _) _
  have r1 := hr.below b
  clear hr
  go_enter Tryd.func25, Tryd.ntmps25
  go_wp2_with fail
  rw [← hw1]
  clear hw1
  with_reducible refine (HF.out _ r1).mono ?_
  rintro e w2 ⟨rfl, b2⟩
  replace b := b.trans (b2.mono b.size)
  clear b2 r1
  have b' := b.alloc b.size (.cells #[.int .i64 0, .int .i64 0, .int .u64 0, .int .u64 0, .int .i64 0, .int .i64 0, .int .i64 0, .int .i64 0] 25)
  go_wp2_with (go_at_call 13; (with_reducible refine (no_any _ _).mono ?_); rintro e w' ⟨rfl, rfl⟩)
  go_ret
  exact ⟨rfl, b'⟩
end Go.Proofs.YtekbjcagjkcaiaaDoor
