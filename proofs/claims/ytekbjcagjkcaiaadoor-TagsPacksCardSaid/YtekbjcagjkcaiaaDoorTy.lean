/- The law TagsPacks: its walk. -/
import Derived.Test.YtekbjcagjkcaiaaDoorTx
import Derived.Test.YtekbjcagjkcaiaaDoorTUc
namespace Go.Proofs.YtekbjcagjkcaiaaDoor
open Go.RowKit
set_option linter.unusedVariables false
set_option linter.unusedSimpArgs false
theorem same_v (v0 v1 v2 v3 v4 v5 v6 v7 u0 u1 u2 u3 u4 u5 u6 u7 : Nat) (h : (v0 : Int) = u0 ∧ (v1 : Int) = u1 ∧ (v2 : Int) = u2 ∧ (v3 : Int) = u3 ∧ (v4 : Int) = u4 ∧ (v5 : Int) = u5 ∧ (v6 : Int) = u6 ∧ (v7 : Int) = u7) : u0 = v0 ∧ u1 = v1 ∧ u2 = v2 ∧ u3 = v3 ∧ u4 = v4 ∧ u5 = v5 ∧ u6 = v6 ∧ u7 = v7 := by omega
/-- What both tell of the same tags: as bytes, on rails. -/
theorem packs_both (x0 x1 x2 x3 x4 x5 x6 x7 : Int) (h0 : -9223372036854775808 ≤ x0 ∧ x0 ≤ 9223372036854775807) (h1 : -9223372036854775808 ≤ x1 ∧ x1 ≤ 9223372036854775807) (h2 : 0 ≤ x2 ∧ x2 ≤ 18446744073709551615) (h3 : 0 ≤ x3 ∧ x3 ≤ 18446744073709551615) (h4 : -9223372036854775808 ≤ x4 ∧ x4 ≤ 9223372036854775807) (h5 : -9223372036854775808 ≤ x5 ∧ x5 ≤ 9223372036854775807) (h6 : -9223372036854775808 ≤ x6 ∧ x6 ≤ 9223372036854775807) (h7 : -9223372036854775808 ≤ x7 ∧ x7 ≤ 9223372036854775807) : ∃ (m m2 : Nat) (er : Int) (LB LL : List UInt8), LB.length = m ∧ LL.length = m2 ∧ m ≤ 100 ∧ m2 ≤ 100 ∧
    (∀ w, Calls Tryd.prog 18 #[.agg #[.int .i64 x0, .int .i64 x1, .int .u64 x2, .int .u64 x3, .int .i64 x4, .int .i64 x5, .int .i64 x6, .int .i64 x7]] w fun e w' => ∃ A c, e = .returned (.tuple #[.slice A m c, .int .i64 er]) ∧ Rd w' A (u8s LB) ∧ Below w.heap.size w w') ∧
    (∀ w, Calls Tryd.prog 19 #[.agg #[.int .i64 x0, .int .i64 x1, .int .u64 x2, .int .u64 x3, .int .i64 x4, .int .i64 x5, .int .i64 x6, .int .i64 x7]] w fun e w' => ∃ A c, e = .returned (.tuple #[.slice A m2 c, .int .i64 er]) ∧ Rd w' A (u8s LL) ∧ Below w.heap.size w w') ∧
    (∀ w, LayT w → Calls Tryd.prog 20 #[.agg #[.int .i64 x0, .int .i64 x1, .int .u64 x2, .int .u64 x3, .int .i64 x4, .int .i64 x5, .int .i64 x6, .int .i64 x7]] w fun e w' => ∃ A c sp, e = .returned (.tuple #[.slice A m c, .int .i64 er]) ∧ Owx w' 5 1 (.slice A m c) m (u8s LB) sp ∧ (∀ q, (Value.slice A m c).ownBlock = some q → w.heap.size ≤ q) ∧ Below w.heap.size w w') ∧
    (∀ w, LayT w → SpT w → Calls Tryd.prog 21 #[.agg #[.int .i64 x0, .int .i64 x1, .int .u64 x2, .int .u64 x3, .int .i64 x4, .int .i64 x5, .int .i64 x6, .int .i64 x7]] w fun e w' => ∃ A c sp, e = .returned (.tuple #[.slice A m2 c, .int .i64 er]) ∧ Owx w' 5 1 (.slice A m2 c) m2 (u8s LL) sp ∧ (∀ q, (Value.slice A m2 c).ownBlock = some q → w.heap.size ≤ q) ∧ Below w.heap.size w w') := by
  by_cases hf : FitI x0 x1 x2 x3 x4 x5 x6 x7
  · have hf2 := hf
    unfold FitI at hf2
    obtain ⟨v0, rfl⟩ : ∃ v : Nat, x0 = v := ⟨x0.toNat, by omega⟩
    obtain ⟨v1, rfl⟩ : ∃ v : Nat, x1 = v := ⟨x1.toNat, by omega⟩
    obtain ⟨v2, rfl⟩ : ∃ v : Nat, x2 = v := ⟨x2.toNat, by omega⟩
    obtain ⟨v3, rfl⟩ : ∃ v : Nat, x3 = v := ⟨x3.toNat, by omega⟩
    obtain ⟨v4, rfl⟩ : ∃ v : Nat, x4 = v := ⟨x4.toNat, by omega⟩
    obtain ⟨v5, rfl⟩ : ∃ v : Nat, x5 = v := ⟨x5.toNat, by omega⟩
    obtain ⟨v6, rfl⟩ : ∃ v : Nat, x6 = v := ⟨x6.toNat, by omega⟩
    obtain ⟨v7, rfl⟩ : ∃ v : Nat, x7 = v := ⟨x7.toNat, by omega⟩
    have hV : FitV v0 v1 v2 v3 v4 v5 v6 v7 := by unfold FitV; omega
    refine ⟨26, 54, 0, packB v0 v1 v2 v3 v4 v5 v6 v7, layB (packB v0 v1 v2 v3 v4 v5 v6 v7), packB_len v0 v1 v2 v3 v4 v5 v6 v7, packL v0 v1 v2 v3 v4 v5 v6 v7, by decide, by decide, fun w => rPack_ok v0 v1 v2 v3 v4 v5 v6 v7 hV w, fun w => ?_, fun w hL => ?_, fun w hL hS => ?_⟩
    · refine (tRLay_any _ _ _ _ _ _ _ _ h0 h1 h2 h3 h4 h5 h6 h7 w).mono fun e w' h => ?_
      rcases h with ⟨u0, u1, u2, u3, u4, u5, u6, u7, heq, _, A, c, sp, k1, k2, k3, k4⟩ | ⟨h, _⟩
      · obtain ⟨rfl, rfl, rfl, rfl, rfl, rfl, rfl, rfl⟩ := same_v v0 v1 v2 v3 v4 v5 v6 v7 u0 u1 u2 u3 u4 u5 u6 u7 heq
        obtain ⟨_, _, er, _, rr⟩ := k2.rd
        cases er
        exact ⟨A, c, k1, rr, k4⟩
      · exact absurd hf h
    · refine (Pack_any _ _ _ _ _ _ _ _ h0 h1 h2 h3 h4 h5 h6 h7 w hL).mono fun e w' h => ?_
      rcases h with ⟨u0, u1, u2, u3, u4, u5, u6, u7, heq, _, A, c, sp, k1, k2, k3, k4⟩ | ⟨h, _⟩
      · obtain ⟨rfl, rfl, rfl, rfl, rfl, rfl, rfl, rfl⟩ := same_v v0 v1 v2 v3 v4 v5 v6 v7 u0 u1 u2 u3 u4 u5 u6 u7 heq
        exact ⟨A, c, sp, k1, k2, k3, k4⟩
      · exact absurd hf h
    · refine (tLay_any _ _ _ _ _ _ _ _ h0 h1 h2 h3 h4 h5 h6 h7 w hL hS).mono fun e w' h => ?_
      rcases h with ⟨u0, u1, u2, u3, u4, u5, u6, u7, heq, _, A, c, sp, k1, k2, k3, k4⟩ | ⟨h, _⟩
      · obtain ⟨rfl, rfl, rfl, rfl, rfl, rfl, rfl, rfl⟩ := same_v v0 v1 v2 v3 v4 v5 v6 v7 u0 u1 u2 u3 u4 u5 u6 u7 heq
        exact ⟨A, c, sp, k1, k2, k3, k4⟩
      · exact absurd hf h
  · have hbad : ∀ v0 v1 v2 v3 v4 v5 v6 v7 : Nat, (x0 = v0 ∧ x1 = v1 ∧ x2 = v2 ∧ x3 = v3 ∧ x4 = v4 ∧ x5 = v5 ∧ x6 = v6 ∧ x7 = v7) → FitV v0 v1 v2 v3 v4 v5 v6 v7 → False := fun v0 v1 v2 v3 v4 v5 v6 v7 h1 h2 => hf (by unfold FitV at h2; unfold FitI; omega)
    refine ⟨0, 0, 61, [], [], rfl, rfl, by decide, by decide, fun w => ?_, fun w => ?_, fun w hL => ?_, fun w hL hS => ?_⟩
    · exact (rPack_no x0 x1 x2 x3 x4 x5 x6 x7 h0 h1 h2 h3 h4 h5 h6 h7 hf w).mono fun e w' ⟨h1, h2⟩ => ⟨none, 0, h1, Rd.nil _ _, h2⟩
    · refine (tRLay_any x0 x1 x2 x3 x4 x5 x6 x7 h0 h1 h2 h3 h4 h5 h6 h7 w).mono fun e w' h => ?_
      rcases h with ⟨v0, v1, v2, v3, v4, v5, v6, v7, heq, hv, _⟩ | ⟨_, h1, h2⟩
      · exact (hbad v0 v1 v2 v3 v4 v5 v6 v7 heq hv).elim
      · exact ⟨none, 0, h1, Rd.nil _ _, h2⟩
    · refine (Pack_any x0 x1 x2 x3 x4 x5 x6 x7 h0 h1 h2 h3 h4 h5 h6 h7 w hL).mono fun e w' h => ?_
      rcases h with ⟨v0, v1, v2, v3, v4, v5, v6, v7, heq, hv, _⟩ | ⟨_, h1, h2⟩
      · exact (hbad v0 v1 v2 v3 v4 v5 v6 v7 heq hv).elim
      · exact ⟨none, 0, [], h1, .inl ⟨rfl, rfl, rfl, rfl⟩, fun q hq => (by cases hq), h2⟩
    · refine (tLay_any x0 x1 x2 x3 x4 x5 x6 x7 h0 h1 h2 h3 h4 h5 h6 h7 w hL hS).mono fun e w' h => ?_
      rcases h with ⟨v0, v1, v2, v3, v4, v5, v6, v7, heq, hv, _⟩ | ⟨_, h1, h2⟩
      · exact (hbad v0 v1 v2 v3 v4 v5 v6 v7 heq hv).elim
      · exact ⟨none, 0, [], h1, .inl ⟨rfl, rfl, rfl, rfl⟩, fun q hq => (by cases hq), h2⟩
def c17 (_ : Nat) : UInt8 := 17
def c34 (_ : Nat) : UInt8 := 34
set_option maxRecDepth 100000 in
set_option maxHeartbeats 6400000 in
theorem packs_walk (x0 x1 x2 x3 x4 x5 x6 x7 : Int) (h0 : -9223372036854775808 ≤ x0 ∧ x0 ≤ 9223372036854775807) (h1 : -9223372036854775808 ≤ x1 ∧ x1 ≤ 9223372036854775807) (h2 : 0 ≤ x2 ∧ x2 ≤ 18446744073709551615) (h3 : 0 ≤ x3 ∧ x3 ≤ 18446744073709551615) (h4 : -9223372036854775808 ≤ x4 ∧ x4 ≤ 9223372036854775807) (h5 : -9223372036854775808 ≤ x5 ∧ x5 ≤ 9223372036854775807) (h6 : -9223372036854775808 ≤ x6 ∧ x6 ≤ 9223372036854775807) (h7 : -9223372036854775808 ≤ x7 ∧ x7 ≤ 9223372036854775807) (w : World) (hL : LayT w) (hS : SpT w) :
    Calls Tryd.prog 5 #[.agg #[.int .i64 x0, .int .i64 x1, .int .u64 x2, .int .u64 x3, .int .i64 x4, .int .i64 x5, .int .i64 x6, .int .i64 x7]] w fun e w' => e = .returned (.bool true) ∧ Below w.heap.size w w' := by
  obtain ⟨m, m2, er, LB, LL, hm, hm2, hb1, hb2, cRB, cRL, cPB, cPL⟩ := packs_both x0 x1 x2 x3 x4 x5 x6 x7 h0 h1 h2 h3 h4 h5 h6 h7
  have HRB := Lib.hid cRB
  have HRL := Lib.hid cRL
  have HPB := Lib.hid cPB
  have HPL := Lib.hid cPL
  have HM := Lib.hid hm
  have HM2 := Lib.hid hm2
  clear cRB cRL cPB cPL hm hm2 h0 h1 h2 h3 h4 h5 h6 h7
  obtain ⟨w1, hw1⟩ : ∃ x, x = w.alloc (.cells #[.int .i64 x0, .int .i64 x1, .int .u64 x2, .int .u64 x3, .int .i64 x4, .int .i64 x5, .int .i64 x6, .int .i64 x7] 25) := ⟨_, rfl⟩
  have b0 : Below w.heap.size w w1 := by rw [hw1]; exact (Below.refl _ w).alloc (Nat.le_refl _) _
  have kt : Blk w1 w.heap.size 25 [.int .i64 x0, .int .i64 x1, .int .u64 x2, .int .u64 x3, .int .i64 x4, .int .i64 x5, .int .i64 x6, .int .i64 x7] := by rw [hw1]; exact Blk.new w _ _
  obtain ⟨G, hG⟩ : ∃ G, G = w.heap.size := ⟨_, rfl⟩
  have HG := Lib.hid hG
  have HL := Lib.hid hL
  have HS := Lib.hid hS
  rw [← hG] at kt
  go_enter Tryd.func5, Tryd.ntmps5
  go_upto_region 1 with fail
  rw [← hw1, ← hG]
  clear hw1 hG hL hS
  have c0 : w1.cell? ⟨G, 0, none⟩ = some (.int .i64 x0) := kt.cell 0
  have c1 : w1.cell? ⟨G, 1, none⟩ = some (.int .i64 x1) := kt.cell 1
  have c2 : w1.cell? ⟨G, 2, none⟩ = some (.int .u64 x2) := kt.cell 2
  have c3 : w1.cell? ⟨G, 3, none⟩ = some (.int .u64 x3) := kt.cell 3
  have c4 : w1.cell? ⟨G, 4, none⟩ = some (.int .i64 x4) := kt.cell 4
  have c5 : w1.cell? ⟨G, 5, none⟩ = some (.int .i64 x5) := kt.cell 5
  have c6 : w1.cell? ⟨G, 6, none⟩ = some (.int .i64 x6) := kt.cell 6
  have c7 : w1.cell? ⟨G, 7, none⟩ = some (.int .i64 x7) := kt.cell 7
  go_wp2_with fail
  with_reducible refine (HRB.out _).mono ?_
  rintro e w2 ⟨A1, q1, rfl, r1, b2⟩
  clear c0 c1 c2 c3 c4 c5 c6 c7
  replace kt := kt.frm (ex := fun _ => False) (Frm.of_below b2) id
  replace b0 := b0.trans (b2.mono b0.size)
  clear b2
  have c0 : w2.cell? ⟨G, 0, none⟩ = some (.int .i64 x0) := kt.cell 0
  have c1 : w2.cell? ⟨G, 1, none⟩ = some (.int .i64 x1) := kt.cell 1
  have c2 : w2.cell? ⟨G, 2, none⟩ = some (.int .u64 x2) := kt.cell 2
  have c3 : w2.cell? ⟨G, 3, none⟩ = some (.int .u64 x3) := kt.cell 3
  have c4 : w2.cell? ⟨G, 4, none⟩ = some (.int .i64 x4) := kt.cell 4
  have c5 : w2.cell? ⟨G, 5, none⟩ = some (.int .i64 x5) := kt.cell 5
  have c6 : w2.cell? ⟨G, 6, none⟩ = some (.int .i64 x6) := kt.cell 6
  have c7 : w2.cell? ⟨G, 7, none⟩ = some (.int .i64 x7) := kt.cell 7
  go_wp2_with fail
  with_reducible refine (HRL.out _).mono ?_
  rintro e w3 ⟨A2, q2, rfl, r2, b2⟩
  clear c0 c1 c2 c3 c4 c5 c6 c7
  replace kt := kt.frm (ex := fun _ => False) (Frm.of_below b2) id
  replace r1 := r1.below b2
  replace b0 := b0.trans (b2.mono b0.size)
  obtain ⟨B, hB⟩ : ∃ B, B = w3.heap.size := ⟨_, rfl⟩
  have b : Below B w3 w3 := Below.refl _ _
  have hsz : B ≤ w3.heap.size := Nat.le_of_eq hB
  have HB := Lib.hid hB
  have H := Hold.nil 5 w3 B
  have R1 := Lib.hid r1
  have R2 := Lib.hid r2
  have B0 := Lib.hid b0
  clear b2 hB r1 r2
  have c0 : w3.cell? ⟨G, 0, none⟩ = some (.int .i64 x0) := kt.cell 0
  have c1 : w3.cell? ⟨G, 1, none⟩ = some (.int .i64 x1) := kt.cell 1
  have c2 : w3.cell? ⟨G, 2, none⟩ = some (.int .u64 x2) := kt.cell 2
  have c3 : w3.cell? ⟨G, 3, none⟩ = some (.int .u64 x3) := kt.cell 3
  have c4 : w3.cell? ⟨G, 4, none⟩ = some (.int .i64 x4) := kt.cell 4
  have c5 : w3.cell? ⟨G, 5, none⟩ = some (.int .i64 x5) := kt.cell 5
  have c6 : w3.cell? ⟨G, 6, none⟩ = some (.int .i64 x6) := kt.cell 6
  have c7 : w3.cell? ⟨G, 7, none⟩ = some (.int .i64 x7) := kt.cell 7
  go_wp2_with fail
  with_reducible refine (HPB.out _ (HL.out.below (B0.out.trans (b.mono (HB.out ▸ B0.out.size))))).mono ?_
  rintro e w4 ⟨A3, q3, sp2, rfl, o2, f2, b2⟩
  clear c0 c1 c2 c3 c4 c5 c6 c7
  replace kt := kt.frm (ex := fun _ => False) (Frm.of_below b2) id
  replace H := H.snoc b2 o2 f2 hsz
  simp only [List.cons_append, List.nil_append] at H
  replace b := b.trans (b2.mono hsz)
  replace hsz := Nat.le_trans hsz b2.size
  clear o2 f2 b2
  have c0 : w4.cell? ⟨G, 0, none⟩ = some (.int .i64 x0) := kt.cell 0
  have c1 : w4.cell? ⟨G, 1, none⟩ = some (.int .i64 x1) := kt.cell 1
  have c2 : w4.cell? ⟨G, 2, none⟩ = some (.int .u64 x2) := kt.cell 2
  have c3 : w4.cell? ⟨G, 3, none⟩ = some (.int .u64 x3) := kt.cell 3
  have c4 : w4.cell? ⟨G, 4, none⟩ = some (.int .i64 x4) := kt.cell 4
  have c5 : w4.cell? ⟨G, 5, none⟩ = some (.int .i64 x5) := kt.cell 5
  have c6 : w4.cell? ⟨G, 6, none⟩ = some (.int .i64 x6) := kt.cell 6
  have c7 : w4.cell? ⟨G, 7, none⟩ = some (.int .i64 x7) := kt.cell 7
  go_wp2_with fail
  with_reducible refine (HPL.out _ (HL.out.below (B0.out.trans (b.mono (HB.out ▸ B0.out.size)))) (HS.out.below (B0.out.trans (b.mono (HB.out ▸ B0.out.size))))).mono ?_
  rintro e w5 ⟨A4, q4, sp2, rfl, o2, f2, b2⟩
  clear c0 c1 c2 c3 c4 c5 c6 c7
  replace kt := kt.frm (ex := fun _ => False) (Frm.of_below b2) id
  replace H := H.snoc b2 o2 f2 hsz
  simp only [List.cons_append, List.nil_append] at H
  replace b := b.trans (b2.mono hsz)
  replace hsz := Nat.le_trans hsz b2.size
  clear o2 f2 b2
  have c0 : w5.cell? ⟨G, 0, none⟩ = some (.int .i64 x0) := kt.cell 0
  have c1 : w5.cell? ⟨G, 1, none⟩ = some (.int .i64 x1) := kt.cell 1
  have c2 : w5.cell? ⟨G, 2, none⟩ = some (.int .u64 x2) := kt.cell 2
  have c3 : w5.cell? ⟨G, 3, none⟩ = some (.int .u64 x3) := kt.cell 3
  have c4 : w5.cell? ⟨G, 4, none⟩ = some (.int .i64 x4) := kt.cell 4
  have c5 : w5.cell? ⟨G, 5, none⟩ = some (.int .i64 x5) := kt.cell 5
  have c6 : w5.cell? ⟨G, 6, none⟩ = some (.int .i64 x6) := kt.cell 6
  have c7 : w5.cell? ⟨G, 7, none⟩ = some (.int .i64 x7) := kt.cell 7
  go_wp2_with fail
  with_reducible refine (HPB.out _ (HL.out.below (B0.out.trans (b.mono (HB.out ▸ B0.out.size))))).mono ?_
  rintro e w6 ⟨A5, q5, sp2, rfl, o2, f2, b2⟩
  clear c0 c1 c2 c3 c4 c5 c6 c7
  replace kt := kt.frm (ex := fun _ => False) (Frm.of_below b2) id
  replace H := H.snoc b2 o2 f2 hsz
  simp only [List.cons_append, List.nil_append] at H
  replace b := b.trans (b2.mono hsz)
  replace hsz := Nat.le_trans hsz b2.size
  clear o2 f2 b2
  have c0 : w6.cell? ⟨G, 0, none⟩ = some (.int .i64 x0) := kt.cell 0
  have c1 : w6.cell? ⟨G, 1, none⟩ = some (.int .i64 x1) := kt.cell 1
  have c2 : w6.cell? ⟨G, 2, none⟩ = some (.int .u64 x2) := kt.cell 2
  have c3 : w6.cell? ⟨G, 3, none⟩ = some (.int .u64 x3) := kt.cell 3
  have c4 : w6.cell? ⟨G, 4, none⟩ = some (.int .i64 x4) := kt.cell 4
  have c5 : w6.cell? ⟨G, 5, none⟩ = some (.int .i64 x5) := kt.cell 5
  have c6 : w6.cell? ⟨G, 6, none⟩ = some (.int .i64 x6) := kt.cell 6
  have c7 : w6.cell? ⟨G, 7, none⟩ = some (.int .i64 x7) := kt.cell 7
  go_wp2_with fail
  with_reducible refine (HPL.out _ (HL.out.below (B0.out.trans (b.mono (HB.out ▸ B0.out.size)))) (HS.out.below (B0.out.trans (b.mono (HB.out ▸ B0.out.size))))).mono ?_
  rintro e w7 ⟨A6, q6, sp2, rfl, o2, f2, b2⟩
  clear c0 c1 c2 c3 c4 c5 c6 c7
  replace kt := kt.frm (ex := fun _ => False) (Frm.of_below b2) id
  replace H := H.snoc b2 o2 f2 hsz
  simp only [List.cons_append, List.nil_append] at H
  replace b := b.trans (b2.mono hsz)
  replace hsz := Nat.le_trans hsz b2.size
  clear o2 f2 b2
  clear kt
  go_wp2_with (go_at_call 13; (with_reducible refine (no_any _ _).mono ?_); rintro e w' ⟨rfl, rfl⟩)
  have ra : Rd w7 A3 (u8s LB) := H.rd (i := 0) (n := m) (c := q3) rfl
  have rb : Rd w7 A1 (u8s LB) := R1.out.below (by rw [← HB.out]; exact b)
  with_reducible refine (same_true A3 A1 m q3 q1 LB _ HM.out ra rb (by omega)).mono ?_
  rintro e w8 ⟨rfl, hq⟩
  have b2 := bel_drawn hq
  replace H := H.bel b2
  replace b := b.trans (b2.mono hsz)
  replace hsz := Nat.le_trans hsz b2.size
  clear ra rb hq b2
  go_wp2_with fail
  have ra : Rd w8 A4 (u8s LL) := H.rd (i := 1) (n := m2) (c := q4) rfl
  have rb : Rd w8 A2 (u8s LL) := R2.out.below (by rw [← HB.out]; exact b)
  with_reducible refine (same_true A4 A2 m2 q4 q2 LL _ HM2.out ra rb (by omega)).mono ?_
  rintro e w9 ⟨rfl, hq⟩
  have b2 := bel_drawn hq
  replace H := H.bel b2
  replace b := b.trans (b2.mono hsz)
  replace hsz := Nat.le_trans hsz b2.size
  clear ra rb hq b2
  go_wp2
  obtain ⟨spx, ox⟩ := H.own (i := 0) (A := A3) (n := m) (c := q3) (L := LB) rfl
  have hlw := H.low (i := 0) (A := A3) (n := m) (c := q3) (L := LB) rfl
  go_loopw [15] (fun ii wr => ∃ k : Nat, k ≤ m ∧ ii = .int .i64 k ∧ (∃ sp, Owx wr 5 1 (.slice A3 m q3) m (u8s (upd c17 LB k)) sp) ∧ Frm (fun z => (Value.slice A3 m q3).ownBlock = some z) w9 wr) (fun ii _ => m - (intI ii))
  case atStart => exact ⟨0, by omega, rfl, ⟨spx, by rw [upd_zero]; exact ox⟩, Frm.refl _ _⟩
  case round =>
    obtain ⟨k, hk, rfl, ⟨sp, o⟩, hf⟩ := hrel
    by_cases hlt : k < m
    · clear H ox
      obtain ⟨g, rfl, hc, hz, hput⟩ := o.put hlt
      have o2 := hput (c17 k)
      rw [upd_set _ _ _ (by rw [HM.out]; exact hlt)] at o2
      have f2 := hf.setCell (p := ⟨g, k, none⟩) (fun _ => rfl) (.int .u8 ((c17 k).toNat : Int))
      rw [show (((c17 k).toNat : Nat) : Int) = 17 from rfl] at o2 f2
      clear hput o hf
      go_wp2
      go_roundw
      case rel => exact ⟨k + 1, by omega, by go_num, ⟨sp, o2⟩, f2⟩
      case measure => simp [intI]; omega
    · obtain rfl : m = k := by omega
      obtain ⟨LX, hnl⟩ : ∃ l, l = upd c17 LB m := ⟨_, rfl⟩
      rw [← hnl] at o
      replace H := H.write (i := 0) rfl hf o
      simp only [List.set] at H
      replace b := below_frm b hsz hf hlw
      replace hsz := Nat.le_trans hsz hf.size
      clear hnl o hf ox hlw hlt
      obtain ⟨w10, hwv⟩ : ∃ x : World, x = wr := ⟨_, rfl⟩
      subst hwv
      go_wp2
      obtain ⟨spx, ox⟩ := H.own (i := 1) (A := A4) (n := m2) (c := q4) (L := LL) rfl
      have hlw := H.low (i := 1) (A := A4) (n := m2) (c := q4) (L := LL) rfl
      go_loopw [16] (fun ii wr => ∃ k : Nat, k ≤ m2 ∧ ii = .int .i64 k ∧ (∃ sp, Owx wr 5 1 (.slice A4 m2 q4) m2 (u8s (upd c34 LL k)) sp) ∧ Frm (fun z => (Value.slice A4 m2 q4).ownBlock = some z) w10 wr) (fun ii _ => m2 - (intI ii))
      case atStart => exact ⟨0, by omega, rfl, ⟨spx, by rw [upd_zero]; exact ox⟩, Frm.refl _ _⟩
      case round =>
        obtain ⟨k, hk, rfl, ⟨sp, o⟩, hf⟩ := hrel
        by_cases hlt : k < m2
        · clear H ox
          obtain ⟨g, rfl, hc, hz, hput⟩ := o.put hlt
          have o2 := hput (c34 k)
          rw [upd_set _ _ _ (by rw [HM2.out]; exact hlt)] at o2
          have f2 := hf.setCell (p := ⟨g, k, none⟩) (fun _ => rfl) (.int .u8 ((c34 k).toNat : Int))
          rw [show (((c34 k).toNat : Nat) : Int) = 34 from rfl] at o2 f2
          clear hput o hf
          go_wp2
          go_roundw
          case rel => exact ⟨k + 1, by omega, by go_num, ⟨sp, o2⟩, f2⟩
          case measure => simp [intI]; omega
        · obtain rfl : m2 = k := by omega
          obtain ⟨LY, hnl⟩ : ∃ l, l = upd c34 LL m2 := ⟨_, rfl⟩
          rw [← hnl] at o
          replace H := H.write (i := 1) rfl hf o
          simp only [List.set] at H
          replace b := below_frm b hsz hf hlw
          replace hsz := Nat.le_trans hsz hf.size
          clear hnl o hf ox hlw hlt
          obtain ⟨w11, hwv⟩ : ∃ x : World, x = wr := ⟨_, rfl⟩
          subst hwv
          obtain ⟨s0, o0⟩ := H.own (i := 0) (A := A3) (n := m) (c := q3) (L := LX) rfl
          obtain ⟨s1, o1⟩ := H.own (i := 1) (A := A4) (n := m2) (c := q4) (L := LY) rfl
          obtain ⟨s2, o2⟩ := H.own (i := 2) (A := A5) (n := m) (c := q5) (L := LB) rfl
          obtain ⟨s3, o3⟩ := H.own (i := 3) (A := A6) (n := m2) (c := q6) (L := LL) rfl
          have g0 := H.low (i := 0) (A := A3) (n := m) (c := q3) (L := LX) rfl
          have g1 := H.low (i := 1) (A := A4) (n := m2) (c := q4) (L := LY) rfl
          have d01 := H.dis 0 1 _ _ _ _ (by decide) rfl rfl
          have d02 := H.dis 0 2 _ _ _ _ (by decide) rfl rfl
          have d03 := H.dis 0 3 _ _ _ _ (by decide) rfl rfl
          have d12 := H.dis 1 2 _ _ _ _ (by decide) rfl rfl
          have d13 := H.dis 1 3 _ _ _ _ (by decide) rfl rfl
          have y0 := o1.lt
          clear H
          go_wp2_with (first
            | (at_builtin; refine wpList_appx _ rfl (.tmp 89) (.tmp 90) 22 rfl 5 _ 1 1 Tryd.underlying22 info5 rfl (by decide) rfl (o0.alloc _) rfl rfl (rd_one _ _ _) (one_int _ _) (by unfold maxLen; omega) (by omega) ?_; intro vp wp spp op yp; have p1 := (o1.alloc (.cells #[.int .u8 51] 5)).frm yp.frm (fun q h1 h2 => d01 q h2 h1); have p2 := (o2.alloc (.cells #[.int .u8 51] 5)).frm yp.frm (fun q h1 h2 => d02 q h2 h1); have p3 := (o3.alloc (.cells #[.int .u8 51] 5)).frm yp.frm (fun q h1 h2 => d03 q h2 h1); have hap := yp.at_; have bp : Below B w3 wp := below_frm (b.alloc hsz _) (by simp; omega) yp.frm (fun q h1 => g0 q h1); have sp_ : B ≤ wp.heap.size := (by have h1 := yp.frm.size; simp at h1; omega); have dp1 : ∀ q, vp.ownBlock = some q → (Value.slice A4 m2 q4).ownBlock ≠ some q := (fun q h1 h2 => by rcases hap with e | e; exact d01 q (e.symm.trans h1) h2; have h3 := y0 q h2; have h4 := Option.some.inj (h1.symm.trans e); simp at h4; omega); obtain ⟨Ap, qp, rfl, _, _⟩ := op.rd; clear o0 o1 o2 o3 yp hap)
            | (at_builtin; refine wpList_appx _ rfl (.tmp 92) (.tmp 93) 22 rfl 5 _ 1 1 Tryd.underlying22 info5 rfl (by decide) rfl (p1.alloc _) rfl rfl (rd_one _ _ _) (one_int _ _) (by unfold maxLen; omega) (by omega) ?_; intro vq wq spq oq yq; have t2 := (p2.alloc (.cells #[.int .u8 68] 5)).frm yq.frm (fun q h1 h2 => d12 q h2 h1); have t3 := (p3.alloc (.cells #[.int .u8 68] 5)).frm yq.frm (fun q h1 h2 => d13 q h2 h1); have tp := (op.alloc (.cells #[.int .u8 68] 5)).frm yq.frm (fun q h1 h2 => dp1 q h1 h2); have bq : Below B w3 wq := below_frm (bp.alloc sp_ _) (by simp; omega) yq.frm (fun q h1 => g1 q h1); obtain ⟨Aq, qq, rfl, _, _⟩ := oq.rd; clear p1 p2 p3 op yq bp))
          obtain ⟨_, _, e5, _, r5⟩ := t2.rd
          cases e5
          obtain ⟨_, _, e6, _, r6⟩ := t3.rd
          cases e6
          obtain ⟨_, _, e7, _, r7⟩ := tp.rd
          cases e7
          obtain ⟨_, _, e8, _, r8⟩ := oq.rd
          cases e8
          have lx : (u8s LX).length = m := by have := tp.len; simp at this; omega
          have ly : (u8s LY).length = m2 := by have := oq.len; simp at this; omega
          have x1 : (u8s LX ++ [Value.int .u8 51])[m]? = some (.int .u8 51) := by rw [List.getElem?_append_right (by omega), lx]; simp
          have x2 : (u8s LY ++ [Value.int .u8 68])[m2]? = some (.int .u8 68) := by rw [List.getElem?_append_right (by omega), ly]; simp
          have X1 := Lib.hid x1
          have X2 := Lib.hid x2
          have BW : w.heap.size ≤ B := HB.out ▸ B0.out.size
          have BB : B ≤ w3.heap.size := Nat.le_of_eq HB.out
          clear t2 t3 tp oq x1 x2 lx ly d01 d02 d03 d12 d13 g0 g1 y0 dp1 b hsz sp_
          have ra : Rd wq A5 (u8s LB) := r5
          have rb : Rd wq A1 (u8s LB) := R1.out.below (by rw [← HB.out]; exact bq)
          with_reducible refine (same_true A5 A1 m q5 q1 LB _ HM.out ra rb (by omega)).mono ?_
          rintro e wA ⟨rfl, hq⟩
          have b2 := bel_drawn hq
          replace bq := bq.trans (b2.mono (Nat.le_trans BB bq.size))
          replace r6 := r6.below b2
          replace r7 := r7.below b2
          replace r8 := r8.below b2
          clear ra rb hq b2 r5
          go_wp2_with fail
          have ra : Rd wA A6 (u8s LL) := r6
          have rb : Rd wA A2 (u8s LL) := R2.out.below (by rw [← HB.out]; exact bq)
          with_reducible refine (same_true A6 A2 m2 q6 q2 LL _ HM2.out ra rb (by omega)).mono ?_
          rintro e wB ⟨rfl, hq⟩
          have b2 := bel_drawn hq
          replace bq := bq.trans (b2.mono (Nat.le_trans BB bq.size))
          replace r7 := r7.below b2
          replace r8 := r8.below b2
          clear ra rb hq b2 r6
          obtain ⟨ap, rfl, hp⟩ := r7.at_ X1.out
          obtain ⟨aq, rfl, hq⟩ := r8.at_ X2.out
          clear r7 r8
          go_wp2
          go_ret
          exact ⟨rfl, B0.out.trans (bq.mono BW)⟩
theorem packs_row (w : World) (x0 x1 x2 x3 x4 x5 x6 x7 : Int) (h0 : -9223372036854775808 ≤ x0 ∧ x0 ≤ 9223372036854775807) (h1 : -9223372036854775808 ≤ x1 ∧ x1 ≤ 9223372036854775807) (h2 : 0 ≤ x2 ∧ x2 ≤ 18446744073709551615) (h3 : 0 ≤ x3 ∧ x3 ≤ 18446744073709551615) (h4 : -9223372036854775808 ≤ x4 ∧ x4 ≤ 9223372036854775807) (h5 : -9223372036854775808 ≤ x5 ∧ x5 ≤ 9223372036854775807) (h6 : -9223372036854775808 ≤ x6 ∧ x6 ≤ 9223372036854775807) (h7 : -9223372036854775808 ≤ x7 ∧ x7 ≤ 9223372036854775807) (hT : LayT w ∧ SpT w) : Calls Tryd.prog 5 #[.agg #[.int .i64 x0, .int .i64 x1, .int .u64 x2, .int .u64 x3, .int .i64 x4, .int .i64 x5, .int .i64 x6, .int .i64 x7]] w fun e w' => e = .returned (.bool true) ∧ Below w.heap.size w w' := packs_walk x0 x1 x2 x3 x4 x5 x6 x7 h0 h1 h2 h3 h4 h5 h6 h7 w hT.1 hT.2
end Go.Proofs.YtekbjcagjkcaiaaDoor
