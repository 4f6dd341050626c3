/- Tags on two rails: the program's Lay and the document's. -/
import Derived.Test.YtekbjcagjkcaiaaDoorTw
import Derived.Test.YtekbjcagjkcaiaaDoorTRx
namespace Go.Proofs.YtekbjcagjkcaiaaDoor
open Go.RowKit
set_option linter.unusedVariables false
set_option linter.unusedSimpArgs false
theorem packL (v0 v1 v2 v3 v4 v5 v6 v7 : Nat) : (layB (packB v0 v1 v2 v3 v4 v5 v6 v7)).length = 54 := by rw [layB_len, packB_len]
theorem layR_pack (v0 v1 v2 v3 v4 v5 v6 v7 : Nat) : layR (packB v0 v1 v2 v3 v4 v5 v6 v7) = (layB (packB v0 v1 v2 v3 v4 v5 v6 v7), 0) := by
  unfold layR
  rw [if_neg (by rw [packB_len]; decide)]
def LayP (own : Bool) (x0 x1 x2 x3 x4 x5 x6 x7 : Int) (w : World) (e : Ending) (w' : World) : Prop :=
  (∃ v0 v1 v2 v3 v4 v5 v6 v7 : Nat, (x0 = v0 ∧ x1 = v1 ∧ x2 = v2 ∧ x3 = v3 ∧ x4 = v4 ∧ x5 = v5 ∧ x6 = v6 ∧ x7 = v7) ∧ FitV v0 v1 v2 v3 v4 v5 v6 v7 ∧ ∃ A c sp, e = .returned (.tuple #[.slice A 54 c, .int .i64 0]) ∧ Owx w' 5 1 (.slice A 54 c) 54 (u8s (layB (packB v0 v1 v2 v3 v4 v5 v6 v7))) sp ∧ (∀ q, (Value.slice A 54 c).ownBlock = some q → w.heap.size ≤ q) ∧ Below w.heap.size w w') ∨
  (¬ FitI x0 x1 x2 x3 x4 x5 x6 x7 ∧ e = .returned (.tuple #[.slice none 0 0, .int .i64 61]) ∧ Below w.heap.size w w')
set_option maxRecDepth 100000 in
set_option maxHeartbeats 3200000 in
theorem tRLay_any (x0 x1 x2 x3 x4 x5 x6 x7 : Int) (h0 : -9223372036854775808 ≤ x0 ∧ x0 ≤ 9223372036854775807) (h1 : -9223372036854775808 ≤ x1 ∧ x1 ≤ 9223372036854775807) (h2 : 0 ≤ x2 ∧ x2 ≤ 18446744073709551615) (h3 : 0 ≤ x3 ∧ x3 ≤ 18446744073709551615) (h4 : -9223372036854775808 ≤ x4 ∧ x4 ≤ 9223372036854775807) (h5 : -9223372036854775808 ≤ x5 ∧ x5 ≤ 9223372036854775807) (h6 : -9223372036854775808 ≤ x6 ∧ x6 ≤ 9223372036854775807) (h7 : -9223372036854775808 ≤ x7 ∧ x7 ≤ 9223372036854775807) (w : World) :
    Calls Tryd.prog 19 #[.agg #[.int .i64 x0, .int .i64 x1, .int .u64 x2, .int .u64 x3, .int .i64 x4, .int .i64 x5, .int .i64 x6, .int .i64 x7]] w (LayP true x0 x1 x2 x3 x4 x5 x6 x7 w) := by
  obtain ⟨w1, hw1⟩ : ∃ x, x = w.alloc (.cells #[.int .i64 x0, .int .i64 x1, .int .u64 x2, .int .u64 x3, .int .i64 x4, .int .i64 x5, .int .i64 x6, .int .i64 x7] 25) := ⟨_, rfl⟩
  have b : Below w.heap.size w w1 := by rw [hw1]; exact (Below.refl _ w).alloc (Nat.le_refl _) _
  have kt : Blk w1 w.heap.size 25 [.int .i64 x0, .int .i64 x1, .int .u64 x2, .int .u64 x3, .int .i64 x4, .int .i64 x5, .int .i64 x6, .int .i64 x7] := by rw [hw1]; exact Blk.new w _ _
  have hP := rPack_any x0 x1 x2 x3 x4 x5 x6 x7 h0 h1 h2 h3 h4 h5 h6 h7 w1
  obtain ⟨G, hG⟩ : ∃ G, G = w.heap.size := ⟨_, rfl⟩
  rw [← hG] at kt
  go_enter Tryd.func19, Tryd.ntmps19
  go_upto_region 1 with fail
  rw [← hw1, ← hG]
  clear hw1 hG h0 h1 h2 h3 h4 h5 h6 h7
  have c0 : w1.cell? ⟨G, 0, none⟩ = some (.int .i64 x0) := kt.cell 0
  have c1 : w1.cell? ⟨G, 1, none⟩ = some (.int .i64 x1) := kt.cell 1
  have c2 : w1.cell? ⟨G, 2, none⟩ = some (.int .u64 x2) := kt.cell 2
  have c3 : w1.cell? ⟨G, 3, none⟩ = some (.int .u64 x3) := kt.cell 3
  have c4 : w1.cell? ⟨G, 4, none⟩ = some (.int .i64 x4) := kt.cell 4
  have c5 : w1.cell? ⟨G, 5, none⟩ = some (.int .i64 x5) := kt.cell 5
  have c6 : w1.cell? ⟨G, 6, none⟩ = some (.int .i64 x6) := kt.cell 6
  have c7 : w1.cell? ⟨G, 7, none⟩ = some (.int .i64 x7) := kt.cell 7
  go_wp2_with fail
  with_reducible refine hP.mono ?_
  rintro e w2 (⟨v0, v1, v2, v3, v4, v5, v6, v7, hx, hv, A2, q2, rfl, r2, b2⟩ | ⟨hn, rfl, b2⟩)
  · obtain ⟨m, hm⟩ : ∃ m, m = 26 := ⟨_, rfl⟩
    have hpl : (packB v0 v1 v2 v3 v4 v5 v6 v7).length = m := by rw [packB_len, hm]
    have bb := b.trans (b2.mono b.size)
    have hC := rLay_any A2 m q2 (packB v0 v1 v2 v3 v4 v5 v6 v7) w2 hpl r2 (by omega)
    rw [layR_pack v0 v1 v2 v3 v4 v5 v6 v7] at hC
    have hq := packL v0 v1 v2 v3 v4 v5 v6 v7
    have HX := Lib.hid hx
    have HV := Lib.hid hv
    clear hx hv hP kt hpl
    rw [hm] at hC
    simp only [hq] at hC
    clear hm hq
    go_wp2_with fail
    with_reducible refine hC.mono ?_
    rintro e w3 ⟨v3, sp3, rfl, o3, f3, b3⟩
    obtain ⟨A3, c3, rfl, _, _⟩ := o3.rd
    clear hC
    go_wp2
    go_ret2
    exact .inl ⟨_, _, _, _, _, _, _, _, HX.out, HV.out, A3, c3, sp3, rfl, o3, fun q hq => Nat.le_trans bb.size (f3 q hq), bb.trans (b3.mono bb.size)⟩
  · clear hP kt c0 c1 c2 c3 c4 c5 c6 c7
    go_wp2
    go_ret2
    exact .inr ⟨hn, rfl, b.trans (b2.mono b.size)⟩
set_option maxRecDepth 100000 in
set_option maxHeartbeats 3200000 in
theorem tLay_any (x0 x1 x2 x3 x4 x5 x6 x7 : Int) (h0 : -9223372036854775808 ≤ x0 ∧ x0 ≤ 9223372036854775807) (h1 : -9223372036854775808 ≤ x1 ∧ x1 ≤ 9223372036854775807) (h2 : 0 ≤ x2 ∧ x2 ≤ 18446744073709551615) (h3 : 0 ≤ x3 ∧ x3 ≤ 18446744073709551615) (h4 : -9223372036854775808 ≤ x4 ∧ x4 ≤ 9223372036854775807) (h5 : -9223372036854775808 ≤ x5 ∧ x5 ≤ 9223372036854775807) (h6 : -9223372036854775808 ≤ x6 ∧ x6 ≤ 9223372036854775807) (h7 : -9223372036854775808 ≤ x7 ∧ x7 ≤ 9223372036854775807) (w : World) (hL : LayT w) (hS : SpT w) :
    Calls Tryd.prog 21 #[.agg #[.int .i64 x0, .int .i64 x1, .int .u64 x2, .int .u64 x3, .int .i64 x4, .int .i64 x5, .int .i64 x6, .int .i64 x7]] w (LayP true x0 x1 x2 x3 x4 x5 x6 x7 w) := by
  obtain ⟨w1, hw1⟩ : ∃ x, x = w.alloc (.cells #[.int .i64 x0, .int .i64 x1, .int .u64 x2, .int .u64 x3, .int .i64 x4, .int .i64 x5, .int .i64 x6, .int .i64 x7] 25) := ⟨_, rfl⟩
  have b : Below w.heap.size w w1 := by rw [hw1]; exact (Below.refl _ w).alloc (Nat.le_refl _) _
  have kt : Blk w1 w.heap.size 25 [.int .i64 x0, .int .i64 x1, .int .u64 x2, .int .u64 x3, .int .i64 x4, .int .i64 x5, .int .i64 x6, .int .i64 x7] := by rw [hw1]; exact Blk.new w _ _
  have hP := Pack_any x0 x1 x2 x3 x4 x5 x6 x7 h0 h1 h2 h3 h4 h5 h6 h7 w1 (hL.below b)
  obtain ⟨G, hG⟩ : ∃ G, G = w.heap.size := ⟨_, rfl⟩
  rw [← hG] at kt
  go_enter Tryd.func21, Tryd.ntmps21
  go_upto_region 1 with fail
  rw [← hw1, ← hG]
  clear hw1 hG h0 h1 h2 h3 h4 h5 h6 h7
  have c0 : w1.cell? ⟨G, 0, none⟩ = some (.int .i64 x0) := kt.cell 0
  have c1 : w1.cell? ⟨G, 1, none⟩ = some (.int .i64 x1) := kt.cell 1
  have c2 : w1.cell? ⟨G, 2, none⟩ = some (.int .u64 x2) := kt.cell 2
  have c3 : w1.cell? ⟨G, 3, none⟩ = some (.int .u64 x3) := kt.cell 3
  have c4 : w1.cell? ⟨G, 4, none⟩ = some (.int .i64 x4) := kt.cell 4
  have c5 : w1.cell? ⟨G, 5, none⟩ = some (.int .i64 x5) := kt.cell 5
  have c6 : w1.cell? ⟨G, 6, none⟩ = some (.int .i64 x6) := kt.cell 6
  have c7 : w1.cell? ⟨G, 7, none⟩ = some (.int .i64 x7) := kt.cell 7
  go_wp2_with fail
  with_reducible refine hP.mono ?_
  rintro e w2 (⟨v0, v1, v2, v3, v4, v5, v6, v7, hx, hv, A2, q2, sp2, rfl, o2, f2, b2⟩ | ⟨hn, rfl, b2⟩)
  · obtain ⟨m, hm⟩ : ∃ m, m = 26 := ⟨_, rfl⟩
    have hpl : (packB v0 v1 v2 v3 v4 v5 v6 v7).length = m := by rw [packB_len, hm]
    have bb := b.trans (b2.mono b.size)
    have o2r : Rd w2 A2 (u8s (packB v0 v1 v2 v3 v4 v5 v6 v7)) := by
      obtain ⟨_, _, er, _, rr⟩ := o2.rd
      cases er
      exact rr
    have hC := Lay_any A2 m q2 (packB v0 v1 v2 v3 v4 v5 v6 v7) w2 hpl o2r (by omega) (hS.below bb)
    rw [layR_pack v0 v1 v2 v3 v4 v5 v6 v7] at hC
    have hq := packL v0 v1 v2 v3 v4 v5 v6 v7
    have HX := Lib.hid hx
    have HV := Lib.hid hv
    clear hx hv hP kt hpl
    rw [hm] at hC
    simp only [hq] at hC
    clear hm hq
    go_wp2_with fail
    with_reducible refine hC.mono ?_
    rintro e w3 ⟨v3, sp3, rfl, o3, f3, b3⟩
    obtain ⟨A3, c3, rfl, _, _⟩ := o3.rd
    clear hC
    go_wp2
    go_ret2
    exact .inl ⟨_, _, _, _, _, _, _, _, HX.out, HV.out, A3, c3, sp3, rfl, o3, fun q hq => Nat.le_trans bb.size (f3 q hq), bb.trans (b3.mono bb.size)⟩
  · clear hP kt c0 c1 c2 c3 c4 c5 c6 c7
    go_wp2
    go_ret2
    exact .inr ⟨hn, rfl, b.trans (b2.mono b.size)⟩
end Go.Proofs.YtekbjcagjkcaiaaDoor
