/- The walk of the law JudgeChecks. -/
import Derived.Test.YtagfcndpblekkaaJad
namespace Go.Proofs.Ytagfcndpblekkaa
open Go.RowKit Go.Maps
set_option linter.unusedVariables false
set_option linter.unusedSimpArgs false
/-- The place that Check tells: 0 where the judge cannot be. -/
def ckX (b p s : Int) (n : Nat) (m : List Bool) (clean : Bool) (l : List Cmd) : Int := if newE b p s n = 0 then ckR b p m clean l else 0
theorem Check_x (b p s : Int) (A : Option Addr) (n c : Nat) (m : List Bool) (clean : Bool) (A2 : Option Addr) (n2 c2 : Nat) (l : List Cmd) (w : World) (hml : m.length = n) (hr : Rd w A (bls m)) (hll : l.length = n2) (hr2 : Rd w A2 (cmdV l)) (hI : CmdsI l) (hm2 : n2 ≤ 4398046511104) :
    Calls Try.prog 20 #[.agg #[.int .i64 b, .int .i64 p, .int .i64 s], .slice A n c, .bool clean, .slice A2 n2 c2] w fun e w' => e = .returned (.tuple #[.int .i64 (ckX b p s n m clean l), .int .i64 (newE b p s n)]) ∧ Below w.heap.size w w' := by
  unfold ckX
  by_cases h0 : newE b p s n = 0
  · rw [h0, if_pos rfl]
    exact Check_ok b p s A n c m clean A2 n2 c2 l w hml hr hll hr2 hI (by omega) h0
  · rw [if_neg h0]
    exact Check_no b p s A n c clean A2 n2 c2 w h0
theorem rCheck_x (b p s : Int) (A : Option Addr) (n c : Nat) (m : List Bool) (clean : Bool) (A2 : Option Addr) (n2 c2 : Nat) (l : List Cmd) (w : World) (hml : m.length = n) (hr : Rd w A (bls m)) (hll : l.length = n2) (hr2 : Rd w A2 (cmdV l)) (hI : CmdsI l) (hm2 : n2 ≤ 4398046511104) :
    Calls Try.prog 17 #[.agg #[.int .i64 b, .int .i64 p, .int .i64 s], .slice A n c, .bool clean, .slice A2 n2 c2] w fun e w' => e = .returned (.tuple #[.int .i64 (ckX b p s n m clean l), .int .i64 (newE b p s n)]) ∧ Below w.heap.size w w' := by
  unfold ckX
  by_cases h0 : newE b p s n = 0
  · rw [h0, if_pos rfl]
    exact rCheck_ok b p s A n c m clean A2 n2 c2 l w hml hr hll hr2 hI hm2 h0 (rNew_any b p s A n c)
  · rw [if_neg h0]
    exact rCheck_no b p s A n c clean A2 n2 c2 w h0 (rNew_any b p s A n c)
set_option maxRecDepth 100000 in
set_option maxHeartbeats 6400000 in
theorem checks_walk (w : World) (b p s : Int) (hbI : -9223372036854775808 ≤ b ∧ b ≤ 9223372036854775807) (hpI : -9223372036854775808 ≤ p ∧ p ≤ 9223372036854775807) (hsI : -9223372036854775808 ≤ s ∧ s ≤ 9223372036854775807) (A : Option Addr) (n c : Nat) (m : List Bool) (hml : m.length = n) (hr : Rd w A (bls m)) (hm : n ≤ 140737488351232) (clean : Bool) (A2 : Option Addr) (n2 c2 : Nat) (l : List Cmd) (hll : l.length = n2) (hr2 : Rd w A2 (cmdV l)) (hI : CmdsI l) (hm2 : n2 ≤ 4398046510976) :
    Calls Try.prog 4 #[.agg #[.int .i64 b, .int .i64 p, .int .i64 s], .slice A n c, .bool clean, .slice A2 n2 c2] w fun e w' => e = .returned (.bool true) ∧ Below w.heap.size w w' := by
  clear hbI hpI hsI
  obtain ⟨w1, hw1⟩ : ∃ x, x = w.alloc (.cells #[.int .i64 b, .int .i64 p, .int .i64 s] 23) := ⟨_, rfl⟩
  have b1 : Below w.heap.size w w1 := by rw [hw1]; exact (Below.refl _ w).alloc (Nat.le_refl _) _
  have kg : Blk w1 w.heap.size 23 [.int .i64 b, .int .i64 p, .int .i64 s] := by rw [hw1]; exact Blk.new w _ [.int .i64 b, .int .i64 p, .int .i64 s]
  obtain ⟨G, hG⟩ : ∃ G, G = w.heap.size := ⟨_, rfl⟩
  rw [← hG] at kg
  have hC1 := fun (A' : Option Addr) (c' : Nat) (A2' : Option Addr) (c2' : Nat) (wx : World) (h1 : Rd wx A' (bls m)) (h2 : Rd wx A2' (cmdV l)) => Check_x b p s A' n c' m clean A2' n2 c2' l wx hml h1 hll h2 hI (by omega)
  have hC2 := fun (A' : Option Addr) (c' : Nat) (A2' : Option Addr) (c2' : Nat) (wx : World) (h1 : Rd wx A' (bls m)) (h2 : Rd wx A2' (cmdV l)) => rCheck_x b p s A' n c' m clean A2' n2 c2' l wx hml h1 hll h2 hI (by omega)
  generalize ckX b p s n m clean l = X at *
  generalize newE b p s n = Y at *
  have hM := fun wx h => marks_any A n c m wx hml h hm
  have hT := fun wx h => trace_any A2 n2 c2 l wx hll h (by omega)
  have hMK := fun (A0 : Option Addr) (c0 : Nat) (wx : World) h0 h1 h2 h3 => marksKept_any A0 A n c0 c m wx hml h0 h1 h2 h3 hm
  have hTK := fun (A0 : Option Addr) (c0 : Nat) (wx : World) h0 h1 h2 h3 => traceKept_any A0 A2 n2 c0 c2 l wx hll h0 h1 h2 h3 (by omega)
  have H1 := Lib.hid hC1
  have H2 := Lib.hid hC2
  have H3 := Lib.hid hM
  have H4 := Lib.hid hT
  have H5 := Lib.hid hMK
  have H6 := Lib.hid hTK
  clear hC1 hC2 hM hT hMK hTK hml hll hI
  have k0 : w1.cell? ⟨G, 0, none⟩ = some (.int .i64 b) := kg.cell 0
  have k1 : w1.cell? ⟨G, 1, none⟩ = some (.int .i64 p) := kg.cell 1
  have k2 : w1.cell? ⟨G, 2, none⟩ = some (.int .i64 s) := kg.cell 2
  go_enter Try.func4, Try.ntmps4
  go_wp2_with fail
  rw [← hw1, ← hG]
  clear hw1 hG
  with_reducible refine (H2.out A c A2 c2 w1 (hr.below b1) (hr2.below b1)).mono ?_
  rintro e w2 ⟨rfl, b2⟩
  replace kg := kg.bel b2
  replace b2 := b1.trans (b2.mono b1.size)
  clear b1 k0 k1 k2
  go_wp2_with fail
  with_reducible refine (H3.out w2 (hr.below b2)).mono ?_
  rintro e w3 ⟨g3, c3, sp3, rfl, r3, h31, _, h32, h33, b3⟩
  replace kg := kg.bel b3
  replace b3 := b2.trans (b3.mono b2.size)
  clear b2
  go_wp2_with fail
  with_reducible refine (H4.out w3 (hr2.below b3)).mono ?_
  rintro e w4 ⟨g4, c4, sp4, rfl, r4, h41, _, h42, h43, b4⟩
  replace kg := kg.bel b4
  replace r3 := r3.bel b4
  replace b4 := b3.trans (b4.mono b3.size)
  clear b3
  have k0 : w4.cell? ⟨G, 0, none⟩ = some (.int .i64 b) := kg.cell 0
  have k1 : w4.cell? ⟨G, 1, none⟩ = some (.int .i64 p) := kg.cell 1
  have k2 : w4.cell? ⟨G, 2, none⟩ = some (.int .i64 s) := kg.cell 2
  go_wp2_with fail
  with_reducible refine (H1.out (some ⟨g3, 0, none⟩) c3 (some ⟨g4, 0, none⟩) c4 w4 (rd_left (rd_left (Rd.of_blk (sp := []) (by rw [List.append_nil]; exact r3)))) (rd_left (rd_left (Rd.of_blk (sp := []) (by rw [List.append_nil]; exact r4))))).mono ?_
  rintro e w5 ⟨rfl, b5⟩
  replace r3 := r3.bel b5
  replace r4 := r4.bel b5
  replace b5 := b4.trans (b5.mono b4.size)
  clear b4 k0 k1 k2 kg
  go_wp2_with fail
  with_reducible refine (H5.out (some ⟨g3, 0, none⟩) c3 w5 (rd_left (Rd.of_blk (sp := []) (by rw [List.append_nil]; exact r3))) (hr.below b5) h31 h32).mono ?_
  rintro e w6 ⟨rfl, b6⟩
  replace r4 := r4.bel b6
  replace b6 := b5.trans (b6.mono b5.size)
  clear b5 r3
  go_wp2_with fail
  with_reducible refine (H6.out (some ⟨g4, 0, none⟩) c4 w6 (rd_left (Rd.of_blk (sp := []) (by rw [List.append_nil]; exact r4))) (hr2.below b6) h41 h42).mono ?_
  rintro e w7 ⟨rfl, b7⟩
  replace b7 := b6.trans (b7.mono b6.size)
  clear b6 r4
  go_wp2
  go_ret
  exact ⟨rfl, b7⟩
end Go.Proofs.Ytagfcndpblekkaa
