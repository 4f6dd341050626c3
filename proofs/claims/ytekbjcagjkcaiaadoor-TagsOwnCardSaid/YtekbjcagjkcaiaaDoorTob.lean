/- The law TagsOwn: its walk (printed by gen_town.py). -/
import Derived.Test.YtekbjcagjkcaiaaDoorToa
import Derived.Test.YtekbjcagjkcaiaaDoorTUc
import Derived.Laws.CopyOwn
namespace Go.Proofs.YtekbjcagjkcaiaaDoor
open Go.RowKit
set_option linter.unusedVariables false
set_option linter.unusedSimpArgs false
def c00 (_ : Nat) : UInt8 := 0
set_option maxRecDepth 100000 in
set_option maxHeartbeats 6400000 in
theorem town_walk (w : World) (x0 x1 x2 x3 x4 x5 x6 x7 : Int) (h0 : -9223372036854775808 ≤ x0 ∧ x0 ≤ 9223372036854775807) (h1 : -9223372036854775808 ≤ x1 ∧ x1 ≤ 9223372036854775807) (h2 : 0 ≤ x2 ∧ x2 ≤ 18446744073709551615) (h3 : 0 ≤ x3 ∧ x3 ≤ 18446744073709551615) (h4 : -9223372036854775808 ≤ x4 ∧ x4 ≤ 9223372036854775807) (h5 : -9223372036854775808 ≤ x5 ∧ x5 ≤ 9223372036854775807) (h6 : -9223372036854775808 ≤ x6 ∧ x6 ≤ 9223372036854775807) (h7 : -9223372036854775808 ≤ x7 ∧ x7 ≤ 9223372036854775807) (y0 y1 y2 y3 y4 y5 y6 y7 : Int) (i0 : -9223372036854775808 ≤ y0 ∧ y0 ≤ 9223372036854775807) (i1 : -9223372036854775808 ≤ y1 ∧ y1 ≤ 9223372036854775807) (i2 : 0 ≤ y2 ∧ y2 ≤ 18446744073709551615) (i3 : 0 ≤ y3 ∧ y3 ≤ 18446744073709551615) (i4 : -9223372036854775808 ≤ y4 ∧ y4 ≤ 9223372036854775807) (i5 : -9223372036854775808 ≤ y5 ∧ y5 ≤ 9223372036854775807) (i6 : -9223372036854775808 ≤ y6 ∧ y6 ≤ 9223372036854775807) (i7 : -9223372036854775808 ≤ y7 ∧ y7 ≤ 9223372036854775807) (hT : LayT w ∧ SpT w) :
    Calls Tryd.prog 9 #[.agg #[.int .i64 x0, .int .i64 x1, .int .u64 x2, .int .u64 x3, .int .i64 x4, .int .i64 x5, .int .i64 x6, .int .i64 x7], .agg #[.int .i64 y0, .int .i64 y1, .int .u64 y2, .int .u64 y3, .int .i64 y4, .int .i64 y5, .int .i64 y6, .int .i64 y7]] w fun e w' => e = .returned (.bool true) ∧ Below w.heap.size w w' := by
  have hL := hT.1
  have hS := hT.2
  have HL := Lib.hid hL
  have HS := Lib.hid hS
  obtain ⟨m, m2, er, LB, LL, hm, hm2, hq1, hq2, cP, cL, cc⟩ := own_both x0 x1 x2 x3 x4 x5 x6 x7 h0 h1 h2 h3 h4 h5 h6 h7
  obtain ⟨n, n2, fr, MB, ML, hn, hn2, hq3, hq4, dP, dL, dd⟩ := own_both y0 y1 y2 y3 y4 y5 y6 y7 i0 i1 i2 i3 i4 i5 i6 i7
  have PT := Lib.hid cP
  have LT := Lib.hid cL
  have PU := Lib.hid dP
  have LU := Lib.hid dL
  have CC := Lib.hid cc
  have DD := Lib.hid dd
  have HM := Lib.hid hm
  have HM2 := Lib.hid hm2
  have HN := Lib.hid hn
  have HN2 := Lib.hid hn2
  clear cP cL dP dL cc dd hm hm2 hn hn2 h0 h1 h2 h3 h4 h5 h6 h7 i0 i1 i2 i3 i4 i5 i6 i7
  obtain ⟨w1, hw1⟩ : ∃ x, x = (w.alloc (.cells #[.int .i64 x0, .int .i64 x1, .int .u64 x2, .int .u64 x3, .int .i64 x4, .int .i64 x5, .int .i64 x6, .int .i64 x7] 25)).alloc (.cells #[.int .i64 y0, .int .i64 y1, .int .u64 y2, .int .u64 y3, .int .i64 y4, .int .i64 y5, .int .i64 y6, .int .i64 y7] 25) := ⟨_, rfl⟩
  have b0 : Below w.heap.size w w1 := by rw [hw1]; exact ((Below.refl _ w).alloc (Nat.le_refl _) _).alloc (by simp) _
  have kt : Blk w1 w.heap.size 25 [.int .i64 x0, .int .i64 x1, .int .u64 x2, .int .u64 x3, .int .i64 x4, .int .i64 x5, .int .i64 x6, .int .i64 x7] := by rw [hw1]; exact (Blk.new w 25 [.int .i64 x0, .int .i64 x1, .int .u64 x2, .int .u64 x3, .int .i64 x4, .int .i64 x5, .int .i64 x6, .int .i64 x7]).alloc _
  have ku : Blk w1 (w.heap.size + 1) 25 [.int .i64 y0, .int .i64 y1, .int .u64 y2, .int .u64 y3, .int .i64 y4, .int .i64 y5, .int .i64 y6, .int .i64 y7] := by
    have h := Blk.new (w.alloc (.cells #[.int .i64 x0, .int .i64 x1, .int .u64 x2, .int .u64 x3, .int .i64 x4, .int .i64 x5, .int .i64 x6, .int .i64 x7] 25)) 25 [.int .i64 y0, .int .i64 y1, .int .u64 y2, .int .u64 y3, .int .i64 y4, .int .i64 y5, .int .i64 y6, .int .i64 y7]
    rw [World.size_alloc] at h
    rw [hw1]; exact h
  have hh := heads_any w1 (hL.below b0) (hS.below b0)
  obtain ⟨G, hG⟩ : ∃ G, G = w.heap.size := ⟨_, rfl⟩
  rw [← hG] at kt ku
  clear hT hL hS
  go_enter Tryd.func9, Tryd.ntmps9
  go_wp2_with fail
  rw [← hw1, ← hG]
  clear hw1 hG
  with_reducible refine hh.mono ?_
  rintro e w2 ⟨rfl, b2⟩
  replace kt := kt.frm (ex := fun _ => False) (Frm.of_below b2) id
  replace ku := ku.frm (ex := fun _ => False) (Frm.of_below b2) id
  replace b0 := b0.trans (b2.mono b0.size)
  obtain ⟨B, hB⟩ : ∃ B, B = w2.heap.size := ⟨_, rfl⟩
  have hGB : G + 1 < B := by have := ku.lt; omega
  have b : Below B w2 w2 := Below.refl _ _
  have hsz : B ≤ w2.heap.size := Nat.le_of_eq hB
  have HB := Lib.hid hB
  have B0 := Lib.hid b0
  have H := Hold.nil 5 w2 B
  clear b2 hB b0 hh
  have c0 : w2.cell? ⟨G, 0, none⟩ = some (.int .i64 x0) := kt.cell 0
  have c1 : w2.cell? ⟨G, 1, none⟩ = some (.int .i64 x1) := kt.cell 1
  have c2 : w2.cell? ⟨G, 2, none⟩ = some (.int .u64 x2) := kt.cell 2
  have c3 : w2.cell? ⟨G, 3, none⟩ = some (.int .u64 x3) := kt.cell 3
  have c4 : w2.cell? ⟨G, 4, none⟩ = some (.int .i64 x4) := kt.cell 4
  have c5 : w2.cell? ⟨G, 5, none⟩ = some (.int .i64 x5) := kt.cell 5
  have c6 : w2.cell? ⟨G, 6, none⟩ = some (.int .i64 x6) := kt.cell 6
  have c7 : w2.cell? ⟨G, 7, none⟩ = some (.int .i64 x7) := kt.cell 7
  go_wp2_with fail
  with_reducible refine (PT.out _ (HL.out.below (B0.out.trans (b.mono (HB.out ▸ B0.out.size))))).mono ?_
  rintro e w3 ⟨A1, z1, sp2, rfl, o2, f2, b2⟩
  clear c0 c1 c2 c3 c4 c5 c6 c7
  replace kt := kt.frm (ex := fun _ => False) (Frm.of_below b2) id
  replace ku := ku.frm (ex := fun _ => False) (Frm.of_below b2) id
  replace H := H.snoc b2 o2 f2 hsz
  simp only [List.cons_append, List.nil_append] at H
  replace b := b.trans (b2.mono hsz)
  replace hsz := Nat.le_trans hsz b2.size
  clear o2 f2 b2
  have c0 : w3.cell? ⟨G + 1, 0, none⟩ = some (.int .i64 y0) := ku.cell 0
  have c1 : w3.cell? ⟨G + 1, 1, none⟩ = some (.int .i64 y1) := ku.cell 1
  have c2 : w3.cell? ⟨G + 1, 2, none⟩ = some (.int .u64 y2) := ku.cell 2
  have c3 : w3.cell? ⟨G + 1, 3, none⟩ = some (.int .u64 y3) := ku.cell 3
  have c4 : w3.cell? ⟨G + 1, 4, none⟩ = some (.int .i64 y4) := ku.cell 4
  have c5 : w3.cell? ⟨G + 1, 5, none⟩ = some (.int .i64 y5) := ku.cell 5
  have c6 : w3.cell? ⟨G + 1, 6, none⟩ = some (.int .i64 y6) := ku.cell 6
  have c7 : w3.cell? ⟨G + 1, 7, none⟩ = some (.int .i64 y7) := ku.cell 7
  go_wp2_with fail
  with_reducible refine (PU.out _ (HL.out.below (B0.out.trans (b.mono (HB.out ▸ B0.out.size))))).mono ?_
  rintro e w4 ⟨A2, z2, sp2, rfl, o2, f2, b2⟩
  clear c0 c1 c2 c3 c4 c5 c6 c7
  replace kt := kt.frm (ex := fun _ => False) (Frm.of_below b2) id
  replace ku := ku.frm (ex := fun _ => False) (Frm.of_below b2) id
  replace H := H.snoc b2 o2 f2 hsz
  simp only [List.cons_append, List.nil_append] at H
  replace b := b.trans (b2.mono hsz)
  replace hsz := Nat.le_trans hsz b2.size
  clear o2 f2 b2
  have c0 : w4.cell? ⟨G, 0, none⟩ = some (.int .i64 x0) := kt.cell 0
  have c1 : w4.cell? ⟨G, 1, none⟩ = some (.int .i64 x1) := kt.cell 1
  have c2 : w4.cell? ⟨G, 2, none⟩ = some (.int .u64 x2) := kt.cell 2
  have c3 : w4.cell? ⟨G, 3, none⟩ = some (.int .u64 x3) := kt.cell 3
  have c4 : w4.cell? ⟨G, 4, none⟩ = some (.int .i64 x4) := kt.cell 4
  have c5 : w4.cell? ⟨G, 5, none⟩ = some (.int .i64 x5) := kt.cell 5
  have c6 : w4.cell? ⟨G, 6, none⟩ = some (.int .i64 x6) := kt.cell 6
  have c7 : w4.cell? ⟨G, 7, none⟩ = some (.int .i64 x7) := kt.cell 7
  go_wp2_with fail
  with_reducible refine (PT.out _ (HL.out.below (B0.out.trans (b.mono (HB.out ▸ B0.out.size))))).mono ?_
  rintro e w5 ⟨A3, z3, sp2, rfl, o2, f2, b2⟩
  clear c0 c1 c2 c3 c4 c5 c6 c7
  replace kt := kt.frm (ex := fun _ => False) (Frm.of_below b2) id
  replace ku := ku.frm (ex := fun _ => False) (Frm.of_below b2) id
  replace H := H.snoc b2 o2 f2 hsz
  simp only [List.cons_append, List.nil_append] at H
  replace b := b.trans (b2.mono hsz)
  replace hsz := Nat.le_trans hsz b2.size
  clear o2 f2 b2
  have c0 : w5.cell? ⟨G, 0, none⟩ = some (.int .i64 x0) := kt.cell 0
  have c1 : w5.cell? ⟨G, 1, none⟩ = some (.int .i64 x1) := kt.cell 1
  have c2 : w5.cell? ⟨G, 2, none⟩ = some (.int .u64 x2) := kt.cell 2
  have c3 : w5.cell? ⟨G, 3, none⟩ = some (.int .u64 x3) := kt.cell 3
  have c4 : w5.cell? ⟨G, 4, none⟩ = some (.int .i64 x4) := kt.cell 4
  have c5 : w5.cell? ⟨G, 5, none⟩ = some (.int .i64 x5) := kt.cell 5
  have c6 : w5.cell? ⟨G, 6, none⟩ = some (.int .i64 x6) := kt.cell 6
  have c7 : w5.cell? ⟨G, 7, none⟩ = some (.int .i64 x7) := kt.cell 7
  go_wp2_with fail
  with_reducible refine (LT.out _ (HL.out.below (B0.out.trans (b.mono (HB.out ▸ B0.out.size)))) (HS.out.below (B0.out.trans (b.mono (HB.out ▸ B0.out.size))))).mono ?_
  rintro e w6 ⟨A4, z4, sp2, rfl, o2, f2, b2⟩
  clear c0 c1 c2 c3 c4 c5 c6 c7
  replace kt := kt.frm (ex := fun _ => False) (Frm.of_below b2) id
  replace ku := ku.frm (ex := fun _ => False) (Frm.of_below b2) id
  replace H := H.snoc b2 o2 f2 hsz
  simp only [List.cons_append, List.nil_append] at H
  replace b := b.trans (b2.mono hsz)
  replace hsz := Nat.le_trans hsz b2.size
  clear o2 f2 b2
  have c0 : w6.cell? ⟨G + 1, 0, none⟩ = some (.int .i64 y0) := ku.cell 0
  have c1 : w6.cell? ⟨G + 1, 1, none⟩ = some (.int .i64 y1) := ku.cell 1
  have c2 : w6.cell? ⟨G + 1, 2, none⟩ = some (.int .u64 y2) := ku.cell 2
  have c3 : w6.cell? ⟨G + 1, 3, none⟩ = some (.int .u64 y3) := ku.cell 3
  have c4 : w6.cell? ⟨G + 1, 4, none⟩ = some (.int .i64 y4) := ku.cell 4
  have c5 : w6.cell? ⟨G + 1, 5, none⟩ = some (.int .i64 y5) := ku.cell 5
  have c6 : w6.cell? ⟨G + 1, 6, none⟩ = some (.int .i64 y6) := ku.cell 6
  have c7 : w6.cell? ⟨G + 1, 7, none⟩ = some (.int .i64 y7) := ku.cell 7
  go_wp2_with fail
  with_reducible refine (LU.out _ (HL.out.below (B0.out.trans (b.mono (HB.out ▸ B0.out.size)))) (HS.out.below (B0.out.trans (b.mono (HB.out ▸ B0.out.size))))).mono ?_
  rintro e w7 ⟨A5, z5, sp2, rfl, o2, f2, b2⟩
  clear c0 c1 c2 c3 c4 c5 c6 c7
  replace kt := kt.frm (ex := fun _ => False) (Frm.of_below b2) id
  replace ku := ku.frm (ex := fun _ => False) (Frm.of_below b2) id
  replace H := H.snoc b2 o2 f2 hsz
  simp only [List.cons_append, List.nil_append] at H
  replace b := b.trans (b2.mono hsz)
  replace hsz := Nat.le_trans hsz b2.size
  clear o2 f2 b2
  have c0 : w7.cell? ⟨G, 0, none⟩ = some (.int .i64 x0) := kt.cell 0
  have c1 : w7.cell? ⟨G, 1, none⟩ = some (.int .i64 x1) := kt.cell 1
  have c2 : w7.cell? ⟨G, 2, none⟩ = some (.int .u64 x2) := kt.cell 2
  have c3 : w7.cell? ⟨G, 3, none⟩ = some (.int .u64 x3) := kt.cell 3
  have c4 : w7.cell? ⟨G, 4, none⟩ = some (.int .i64 x4) := kt.cell 4
  have c5 : w7.cell? ⟨G, 5, none⟩ = some (.int .i64 x5) := kt.cell 5
  have c6 : w7.cell? ⟨G, 6, none⟩ = some (.int .i64 x6) := kt.cell 6
  have c7 : w7.cell? ⟨G, 7, none⟩ = some (.int .i64 x7) := kt.cell 7
  go_wp2_with fail
  with_reducible refine (LT.out _ (HL.out.below (B0.out.trans (b.mono (HB.out ▸ B0.out.size)))) (HS.out.below (B0.out.trans (b.mono (HB.out ▸ B0.out.size))))).mono ?_
  rintro e w8 ⟨A6, z6, sp2, rfl, o2, f2, b2⟩
  clear c0 c1 c2 c3 c4 c5 c6 c7
  replace kt := kt.frm (ex := fun _ => False) (Frm.of_below b2) id
  replace ku := ku.frm (ex := fun _ => False) (Frm.of_below b2) id
  replace H := H.snoc b2 o2 f2 hsz
  simp only [List.cons_append, List.nil_append] at H
  replace b := b.trans (b2.mono hsz)
  replace hsz := Nat.le_trans hsz b2.size
  clear o2 f2 b2
  go_wp2_with (go_at_call 13; (with_reducible refine (no_any _ _).mono ?_); rintro e w' ⟨rfl, rfl⟩)
  have ra : Rd w8 A1 (u8s LB) := H.rd (i := 0) (n := m) (c := z1) rfl
  have rb : Rd w8 A3 (u8s LB) := H.rd (i := 2) (n := m) (c := z3) rfl

  with_reducible refine (same_true A1 A3 m z1 z3 LB _ HM.out ra rb (by omega)).mono ?_
  rintro e w9 ⟨rfl, hq⟩
  have b2 := bel_drawn hq
  replace H := H.bel b2
  replace kt := kt.frm (ex := fun _ => False) (Frm.of_below b2) id
  replace ku := ku.frm (ex := fun _ => False) (Frm.of_below b2) id
  replace b := b.trans (b2.mono hsz)
  replace hsz := Nat.le_trans hsz b2.size
  clear ra rb hq b2
  have ra : Rd w9 A4 (u8s LL) := H.rd (i := 3) (n := m2) (c := z4) rfl
  have rb : Rd w9 A6 (u8s LL) := H.rd (i := 5) (n := m2) (c := z6) rfl
  go_wp2_with fail
  with_reducible refine (same_true A4 A6 m2 z4 z6 LL _ HM2.out ra rb (by omega)).mono ?_
  rintro e w10 ⟨rfl, hq⟩
  have b2 := bel_drawn hq
  replace H := H.bel b2
  replace kt := kt.frm (ex := fun _ => False) (Frm.of_below b2) id
  replace ku := ku.frm (ex := fun _ => False) (Frm.of_below b2) id
  replace b := b.trans (b2.mono hsz)
  replace hsz := Nat.le_trans hsz b2.size
  clear ra rb hq b2
  have bout : Below w.heap.size w w10 := B0.out.trans (b.mono (HB.out ▸ B0.out.size))
  rcases CC.out with he | ⟨rfl, rfl, rfl, rrT, lfT⟩
  · clear H PT LT PU LU CC DD kt ku
    go_wp2_with (go_at_call 13; (with_reducible refine (no_any _ _).mono ?_); rintro e w' ⟨rfl, rfl⟩)
    go_ret
    exact ⟨rfl, bout⟩
  rcases DD.out with he | ⟨rfl, rfl, rfl, rrU, lfU⟩
  · clear H PT LT PU LU CC DD kt ku rrT lfT
    go_wp2_with (go_at_call 13; (with_reducible refine (no_any _ _).mono ?_); rintro e w' ⟨rfl, rfl⟩)
    go_ret
    exact ⟨rfl, bout⟩
  have RT := Lib.hid rrT
  have RU := Lib.hid rrU
  have FT := Lib.hid lfT
  have FU := Lib.hid lfU
  clear bout rrT lfT rrU lfU CC DD PT LT PU LU
  go_wp2_with (first | (go_at_call 13; (with_reducible refine (no_any _ _).mono ?_); rintro e w' ⟨rfl, rfl⟩) | (at_builtin; have re := (show Rd w10 A1 (u8s LB) from H.rd (i := 0) (n := 26) (c := z1) rfl).below ((Below.refl w10.heap.size w10).alloc (Nat.le_refl _) (.cells #[] 5)); refine wpList_appx _ rfl (.tmp 104) (.tmp 105) 22 rfl 5 _ 1 1 Tryd.underlying22 info5 rfl (by decide) rfl (owx_empty w10 5) rfl (by rw [u8s_length, HM.out]) re (one_u8s _) (by unfold maxLen; omega) (by omega) ?_; intro v2 w11 sp2 o2 y2; simp only [Nat.zero_add, List.nil_append] at o2; obtain ⟨f2, b2⟩ := copy_new y2; obtain ⟨A7, z7, rfl, _, _⟩ := o2.rd; replace H := H.snoc b2 o2 f2 hsz; simp only [List.cons_append, List.nil_append] at H; replace kt := kt.frm (ex := fun _ => False) (Frm.of_below b2) id; replace ku := ku.frm (ex := fun _ => False) (Frm.of_below b2) id; replace b := b.trans (b2.mono hsz); replace hsz := Nat.le_trans hsz b2.size; clear re y2 o2 f2 b2) | (at_builtin; have re := (show Rd w11 A4 (u8s LL) from H.rd (i := 3) (n := 54) (c := z4) rfl).below ((Below.refl w11.heap.size w11).alloc (Nat.le_refl _) (.cells #[] 5)); refine wpList_appx _ rfl (.tmp 107) (.tmp 108) 22 rfl 5 _ 1 1 Tryd.underlying22 info5 rfl (by decide) rfl (owx_empty w11 5) rfl (by rw [u8s_length, HM2.out]) re (one_u8s _) (by unfold maxLen; omega) (by omega) ?_; intro v2 w12 sp2 o2 y2; simp only [Nat.zero_add, List.nil_append] at o2; obtain ⟨f2, b2⟩ := copy_new y2; obtain ⟨A8, z8, rfl, _, _⟩ := o2.rd; replace H := H.snoc b2 o2 f2 hsz; simp only [List.cons_append, List.nil_append] at H; replace kt := kt.frm (ex := fun _ => False) (Frm.of_below b2) id; replace ku := ku.frm (ex := fun _ => False) (Frm.of_below b2) id; replace b := b.trans (b2.mono hsz); replace hsz := Nat.le_trans hsz b2.size; clear re y2 o2 f2 b2))
  have r0 : Rd w12 A7 (u8s LB) := H.rd (i := 6) (n := 26) (c := z7) rfl

  with_reducible refine (RT.out _ _ _ r0 (HL.out.below (B0.out.trans (b.mono (HB.out ▸ B0.out.size))))).mono ?_
  rintro e w13 ⟨rfl, b2⟩
  replace H := H.bel b2
  replace kt := kt.frm (ex := fun _ => False) (Frm.of_below b2) id
  replace ku := ku.frm (ex := fun _ => False) (Frm.of_below b2) id
  replace b := b.trans (b2.mono hsz)
  replace hsz := Nat.le_trans hsz b2.size
  clear r0 b2
  go_upto_region 15 with fail
  obtain ⟨w14, hwv⟩ : ∃ x, x = w13.alloc (.cells #[.int .i64 x0, .int .i64 x1, .int .u64 x2, .int .u64 x3, .int .i64 x4, .int .i64 x5, .int .i64 x6, .int .i64 x7] 25) := ⟨_, rfl⟩
  have b2 : Below w13.heap.size w13 w14 := by rw [hwv]; exact (Below.refl _ _).alloc (Nat.le_refl _) _
  have kx : Blk w14 w13.heap.size 25 [.int .i64 x0, .int .i64 x1, .int .u64 x2, .int .u64 x3, .int .i64 x4, .int .i64 x5, .int .i64 x6, .int .i64 x7] := by rw [hwv]; exact Blk.new w13 _ _
  rw [← hwv]
  obtain ⟨P1, hP⟩ : ∃ P, P = w13.heap.size := ⟨_, rfl⟩
  rw [← hP] at kx ⊢
  replace H := H.bel b2
  replace kt := kt.frm (ex := fun _ => False) (Frm.of_below b2) id
  replace ku := ku.frm (ex := fun _ => False) (Frm.of_below b2) id
  replace b := b.trans (b2.mono hsz)
  replace hsz := Nat.le_trans hsz b2.size
  clear hwv hP b2
  have r0 : Rd w14 A8 (u8s LL) := H.rd (i := 7) (n := 54) (c := z8) rfl
  go_wp2_with fail
  with_reducible refine (FT.out _ _ _ r0 (HL.out.below (B0.out.trans (b.mono (HB.out ▸ B0.out.size))))).mono ?_
  rintro e w15 ⟨rfl, b2⟩
  replace H := H.bel b2
  replace kt := kt.frm (ex := fun _ => False) (Frm.of_below b2) id
  replace ku := ku.frm (ex := fun _ => False) (Frm.of_below b2) id
  replace kx := kx.frm (ex := fun _ => False) (Frm.of_below b2) id
  replace b := b.trans (b2.mono hsz)
  replace hsz := Nat.le_trans hsz b2.size
  clear r0 b2
  go_upto_region 16 with fail
  obtain ⟨w16, hwv⟩ : ∃ x, x = w15.alloc (.cells #[.int .i64 x0, .int .i64 x1, .int .u64 x2, .int .u64 x3, .int .i64 x4, .int .i64 x5, .int .i64 x6, .int .i64 x7] 25) := ⟨_, rfl⟩
  have b2 : Below w15.heap.size w15 w16 := by rw [hwv]; exact (Below.refl _ _).alloc (Nat.le_refl _) _
  have ky : Blk w16 w15.heap.size 25 [.int .i64 x0, .int .i64 x1, .int .u64 x2, .int .u64 x3, .int .i64 x4, .int .i64 x5, .int .i64 x6, .int .i64 x7] := by rw [hwv]; exact Blk.new w15 _ _
  rw [← hwv]
  obtain ⟨P2, hP⟩ : ∃ P, P = w15.heap.size := ⟨_, rfl⟩
  rw [← hP] at ky ⊢
  replace H := H.bel b2
  replace kt := kt.frm (ex := fun _ => False) (Frm.of_below b2) id
  replace ku := ku.frm (ex := fun _ => False) (Frm.of_below b2) id
  replace kx := kx.frm (ex := fun _ => False) (Frm.of_below b2) id
  replace b := b.trans (b2.mono hsz)
  replace hsz := Nat.le_trans hsz b2.size
  clear hwv hP b2
  obtain ⟨spx, ox⟩ := H.own (i := 6) (A := A7) (n := 26) (c := z7) (L := LB) rfl
  obtain ⟨g0, hB0g, hg0, hfit0, o2, hf⟩ := ox.over (M := MB) (by decide) HN.out
  have hlw := H.low (i := 6) (A := A7) (n := 26) (c := z7) (L := LB) rfl
  have r0 : Rd w16 A2 (u8s MB) := H.rd (i := 1) (n := 26) (c := z2) rfl
  obtain ⟨ad2, hA21, hsrc⟩ := r0 (by intro h; have := congrArg List.length h; rw [u8s_length, HN.out] at this; simp at this)
  have hcs : (u8s MB).length = Nat.min 26 26 := by rw [u8s_length, HN.out]; rfl
  have HCS := Lib.hid hcs
  have HFIT := Lib.hid hfit0
  have HA := Lib.hid hA21
  have HB9 := Lib.hid hB0g
  clear r0 hcs hfit0 hA21 hB0g
  go_upto_region 17 with (refine wpList_copy_own (o := ⟨some 123, _, _, _, _, _⟩) rfl (.tmp 121) (.tmp 122) 22 22 rfl 5 Tryd.underlying22 (by rfl) g0 0 26 z7 ad2 26 z2 (by rw [← HB9.out]; rfl) (by rw [← HA.out]; rfl) _ 5 hg0 (u8s MB) HCS.out hsrc HFIT.out (one_u8s _) ?_; generalize World.setRow w16 g0 _ = w17 at o2 hf ⊢; replace kt := kt.frm hf (fun hq => by have := hlw _ hq; omega); replace ku := ku.frm hf (fun hq => by have := hlw _ hq; omega); replace kx := kx.frm hf (fun hq => own_other ox (by decide) _ _ hq kx); replace ky := ky.frm hf (fun hq => own_other ox (by decide) _ _ hq ky); replace H := H.write (i := 6) rfl hf o2; simp only [List.set] at H; replace b := below_frm b hsz hf hlw; replace hsz := Nat.le_trans hsz hf.size; clear o2 hf ox hlw hg0 hsrc HCS HFIT HA HB9)
  obtain ⟨spx, ox⟩ := H.own (i := 7) (A := A8) (n := 54) (c := z8) (L := LL) rfl
  obtain ⟨g0, hB0g, hg0, hfit0, o2, hf⟩ := ox.over (M := ML) (by decide) HN2.out
  have hlw := H.low (i := 7) (A := A8) (n := 54) (c := z8) (L := LL) rfl
  have r0 : Rd w17 A5 (u8s ML) := H.rd (i := 4) (n := 54) (c := z5) rfl
  obtain ⟨ad2, hA21, hsrc⟩ := r0 (by intro h; have := congrArg List.length h; rw [u8s_length, HN2.out] at this; simp at this)
  have hcs : (u8s ML).length = Nat.min 54 54 := by rw [u8s_length, HN2.out]; rfl
  have HCS := Lib.hid hcs
  have HFIT := Lib.hid hfit0
  have HA := Lib.hid hA21
  have HB9 := Lib.hid hB0g
  clear r0 hcs hfit0 hA21 hB0g
  go_wp2_with (refine wpList_copy_own (o := ⟨some 126, _, _, _, _, _⟩) rfl (.tmp 124) (.tmp 125) 22 22 rfl 5 Tryd.underlying22 (by rfl) g0 0 54 z8 ad2 54 z5 (by rw [← HB9.out]; rfl) (by rw [← HA.out]; rfl) _ 5 hg0 (u8s ML) HCS.out hsrc HFIT.out (one_u8s _) ?_; generalize World.setRow w17 g0 _ = w18 at o2 hf ⊢; replace kt := kt.frm hf (fun hq => by have := hlw _ hq; omega); replace ku := ku.frm hf (fun hq => by have := hlw _ hq; omega); replace kx := kx.frm hf (fun hq => own_other ox (by decide) _ _ hq kx); replace ky := ky.frm hf (fun hq => own_other ox (by decide) _ _ hq ky); replace H := H.write (i := 7) rfl hf o2; simp only [List.set] at H; replace b := below_frm b hsz hf hlw; replace hsz := Nat.le_trans hsz hf.size; clear o2 hf ox hlw hg0 hsrc HCS HFIT HA HB9)
  have r0 : Rd w18 A7 (u8s MB) := H.rd (i := 6) (n := 26) (c := z7) rfl

  with_reducible refine (RU.out _ _ _ r0 (HL.out.below (B0.out.trans (b.mono (HB.out ▸ B0.out.size))))).mono ?_
  rintro e w19 ⟨rfl, b2⟩
  replace H := H.bel b2
  replace kt := kt.frm (ex := fun _ => False) (Frm.of_below b2) id
  replace ku := ku.frm (ex := fun _ => False) (Frm.of_below b2) id
  replace kx := kx.frm (ex := fun _ => False) (Frm.of_below b2) id
  replace ky := ky.frm (ex := fun _ => False) (Frm.of_below b2) id
  replace b := b.trans (b2.mono hsz)
  replace hsz := Nat.le_trans hsz b2.size
  clear r0 b2
  go_upto_region 19 with fail
  obtain ⟨w20, hwv⟩ : ∃ x, x = w19.alloc (.cells #[.int .i64 y0, .int .i64 y1, .int .u64 y2, .int .u64 y3, .int .i64 y4, .int .i64 y5, .int .i64 y6, .int .i64 y7] 25) := ⟨_, rfl⟩
  have b2 : Below w19.heap.size w19 w20 := by rw [hwv]; exact (Below.refl _ _).alloc (Nat.le_refl _) _
  have kv : Blk w20 w19.heap.size 25 [.int .i64 y0, .int .i64 y1, .int .u64 y2, .int .u64 y3, .int .i64 y4, .int .i64 y5, .int .i64 y6, .int .i64 y7] := by rw [hwv]; exact Blk.new w19 _ _
  rw [← hwv]
  obtain ⟨P3, hP⟩ : ∃ P, P = w19.heap.size := ⟨_, rfl⟩
  rw [← hP] at kv ⊢
  replace H := H.bel b2
  replace kt := kt.frm (ex := fun _ => False) (Frm.of_below b2) id
  replace ku := ku.frm (ex := fun _ => False) (Frm.of_below b2) id
  replace kx := kx.frm (ex := fun _ => False) (Frm.of_below b2) id
  replace ky := ky.frm (ex := fun _ => False) (Frm.of_below b2) id
  replace b := b.trans (b2.mono hsz)
  replace hsz := Nat.le_trans hsz b2.size
  clear hwv hP b2
  have r0 : Rd w20 A8 (u8s ML) := H.rd (i := 7) (n := 54) (c := z8) rfl
  go_wp2_with fail
  with_reducible refine (FU.out _ _ _ r0 (HL.out.below (B0.out.trans (b.mono (HB.out ▸ B0.out.size))))).mono ?_
  rintro e w21 ⟨rfl, b2⟩
  replace H := H.bel b2
  replace kt := kt.frm (ex := fun _ => False) (Frm.of_below b2) id
  replace ku := ku.frm (ex := fun _ => False) (Frm.of_below b2) id
  replace kx := kx.frm (ex := fun _ => False) (Frm.of_below b2) id
  replace ky := ky.frm (ex := fun _ => False) (Frm.of_below b2) id
  replace kv := kv.frm (ex := fun _ => False) (Frm.of_below b2) id
  replace b := b.trans (b2.mono hsz)
  replace hsz := Nat.le_trans hsz b2.size
  clear r0 b2
  go_upto_block 0 with fail
  obtain ⟨w22, hwv⟩ : ∃ x, x = w21.alloc (.cells #[.int .i64 y0, .int .i64 y1, .int .u64 y2, .int .u64 y3, .int .i64 y4, .int .i64 y5, .int .i64 y6, .int .i64 y7] 25) := ⟨_, rfl⟩
  have b2 : Below w21.heap.size w21 w22 := by rw [hwv]; exact (Below.refl _ _).alloc (Nat.le_refl _) _
  have kw : Blk w22 w21.heap.size 25 [.int .i64 y0, .int .i64 y1, .int .u64 y2, .int .u64 y3, .int .i64 y4, .int .i64 y5, .int .i64 y6, .int .i64 y7] := by rw [hwv]; exact Blk.new w21 _ _
  rw [← hwv]
  obtain ⟨P4, hP⟩ : ∃ P, P = w21.heap.size := ⟨_, rfl⟩
  rw [← hP] at kw ⊢
  replace H := H.bel b2
  replace kt := kt.frm (ex := fun _ => False) (Frm.of_below b2) id
  replace ku := ku.frm (ex := fun _ => False) (Frm.of_below b2) id
  replace kx := kx.frm (ex := fun _ => False) (Frm.of_below b2) id
  replace ky := ky.frm (ex := fun _ => False) (Frm.of_below b2) id
  replace kv := kv.frm (ex := fun _ => False) (Frm.of_below b2) id
  replace b := b.trans (b2.mono hsz)
  replace hsz := Nat.le_trans hsz b2.size
  clear hwv hP b2
  go_wp2_with fail
  obtain ⟨spx, ox⟩ := H.own (i := 6) (A := A7) (n := 26) (c := z7) (L := MB) rfl
  have hlw := H.low (i := 6) (A := A7) (n := 26) (c := z7) (L := MB) rfl
  go_loopw [25] (fun ii wr => ∃ q : Nat, q ≤ 26 ∧ ii = .int .i64 q ∧ (∃ sp, Owx wr 5 1 (.slice A7 26 z7) 26 (u8s (upd c00 MB q)) sp) ∧ Frm (fun k => (Value.slice A7 26 z7).ownBlock = some k) w22 wr) (fun ii _ => 26 - (intI ii))
  case atStart => exact ⟨0, by omega, rfl, ⟨spx, by rw [upd_zero]; exact ox⟩, Frm.refl _ _⟩
  case round =>
    obtain ⟨q, hq, rfl, ⟨sp, o⟩, hf⟩ := hrel
    by_cases hlt : q < 26
    · clear H ox
      have hlti : (q : Int) < 26 := by omega
      obtain ⟨g, rfl, hc, hz, hput⟩ := o.put hlt
      have o2 := hput (c00 q)
      rw [upd_set _ _ _ (by rw [HN.out]; exact hlt)] at o2
      have f2 := hf.setCell (p := ⟨g, q, none⟩) (fun _ => rfl) (.int .u8 ((c00 q).toNat : Int))
      rw [show (((c00 q).toNat : Nat) : Int) = 0 from rfl] at o2 f2
      clear hput o hf
      go_wp2
      go_roundw
      case rel => exact ⟨q + 1, by omega, by go_num, ⟨sp, o2⟩, f2⟩
      case measure => simp [intI]; omega
    · obtain rfl : q = 26 := by omega
      obtain ⟨l4, hl4⟩ : ∃ l4, l4 = upd c00 MB 26 := ⟨_, rfl⟩
      rw [← hl4] at o
      replace kt := kt.frm hf (fun hq => by have := hlw _ hq; omega)
      replace ku := ku.frm hf (fun hq => by have := hlw _ hq; omega)
      replace kx := kx.frm hf (fun hq => own_other ox (by decide) _ _ hq kx)
      replace ky := ky.frm hf (fun hq => own_other ox (by decide) _ _ hq ky)
      replace kv := kv.frm hf (fun hq => own_other ox (by decide) _ _ hq kv)
      replace kw := kw.frm hf (fun hq => own_other ox (by decide) _ _ hq kw)
      replace H := H.write (i := 6) rfl hf o
      simp only [List.set] at H
      replace b := below_frm b hsz hf hlw
      replace hsz := Nat.le_trans hsz hf.size
      clear hl4 o hf ox hlw hlt
      obtain ⟨w23, hwv⟩ : ∃ w23 : World, w23 = wr := ⟨_, rfl⟩
      subst hwv
      have c0 : w23.cell? ⟨P1, 0, none⟩ = some (.int .i64 x0) := kx.cell 0
      have c1 : w23.cell? ⟨P1, 1, none⟩ = some (.int .i64 x1) := kx.cell 1
      have c2 : w23.cell? ⟨P1, 2, none⟩ = some (.int .u64 x2) := kx.cell 2
      have c3 : w23.cell? ⟨P1, 3, none⟩ = some (.int .u64 x3) := kx.cell 3
      have c4 : w23.cell? ⟨P1, 4, none⟩ = some (.int .i64 x4) := kx.cell 4
      have c5 : w23.cell? ⟨P1, 5, none⟩ = some (.int .i64 x5) := kx.cell 5
      have c6 : w23.cell? ⟨P1, 6, none⟩ = some (.int .i64 x6) := kx.cell 6
      have c7 : w23.cell? ⟨P1, 7, none⟩ = some (.int .i64 x7) := kx.cell 7
      have d0 : w23.cell? ⟨G, 0, none⟩ = some (.int .i64 x0) := kt.cell 0
      have d1 : w23.cell? ⟨G, 1, none⟩ = some (.int .i64 x1) := kt.cell 1
      have d2 : w23.cell? ⟨G, 2, none⟩ = some (.int .u64 x2) := kt.cell 2
      have d3 : w23.cell? ⟨G, 3, none⟩ = some (.int .u64 x3) := kt.cell 3
      have d4 : w23.cell? ⟨G, 4, none⟩ = some (.int .i64 x4) := kt.cell 4
      have d5 : w23.cell? ⟨G, 5, none⟩ = some (.int .i64 x5) := kt.cell 5
      have d6 : w23.cell? ⟨G, 6, none⟩ = some (.int .i64 x6) := kt.cell 6
      have d7 : w23.cell? ⟨G, 7, none⟩ = some (.int .i64 x7) := kt.cell 7
      go_wp2_with (go_at_call 13; (with_reducible refine (no_any _ _).mono ?_); rintro e w' ⟨rfl, rfl⟩)
      with_reducible refine (same_tags _ _ _ _ _ _ _ _ _).mono ?_
      rintro e w24 ⟨rfl, b2⟩
      replace H := H.bel b2
      replace kt := kt.frm (ex := fun _ => False) (Frm.of_below b2) id
      replace ku := ku.frm (ex := fun _ => False) (Frm.of_below b2) id
      replace kx := kx.frm (ex := fun _ => False) (Frm.of_below b2) id
      replace ky := ky.frm (ex := fun _ => False) (Frm.of_below b2) id
      replace kv := kv.frm (ex := fun _ => False) (Frm.of_below b2) id
      replace kw := kw.frm (ex := fun _ => False) (Frm.of_below b2) id
      replace b := b.trans (b2.mono hsz)
      replace hsz := Nat.le_trans hsz b2.size
      clear b2
      clear c0 c1 c2 c3 c4 c5 c6 c7
      clear d0 d1 d2 d3 d4 d5 d6 d7
      have c0 : w24.cell? ⟨P2, 0, none⟩ = some (.int .i64 x0) := ky.cell 0
      have c1 : w24.cell? ⟨P2, 1, none⟩ = some (.int .i64 x1) := ky.cell 1
      have c2 : w24.cell? ⟨P2, 2, none⟩ = some (.int .u64 x2) := ky.cell 2
      have c3 : w24.cell? ⟨P2, 3, none⟩ = some (.int .u64 x3) := ky.cell 3
      have c4 : w24.cell? ⟨P2, 4, none⟩ = some (.int .i64 x4) := ky.cell 4
      have c5 : w24.cell? ⟨P2, 5, none⟩ = some (.int .i64 x5) := ky.cell 5
      have c6 : w24.cell? ⟨P2, 6, none⟩ = some (.int .i64 x6) := ky.cell 6
      have c7 : w24.cell? ⟨P2, 7, none⟩ = some (.int .i64 x7) := ky.cell 7
      have d0 : w24.cell? ⟨G, 0, none⟩ = some (.int .i64 x0) := kt.cell 0
      have d1 : w24.cell? ⟨G, 1, none⟩ = some (.int .i64 x1) := kt.cell 1
      have d2 : w24.cell? ⟨G, 2, none⟩ = some (.int .u64 x2) := kt.cell 2
      have d3 : w24.cell? ⟨G, 3, none⟩ = some (.int .u64 x3) := kt.cell 3
      have d4 : w24.cell? ⟨G, 4, none⟩ = some (.int .i64 x4) := kt.cell 4
      have d5 : w24.cell? ⟨G, 5, none⟩ = some (.int .i64 x5) := kt.cell 5
      have d6 : w24.cell? ⟨G, 6, none⟩ = some (.int .i64 x6) := kt.cell 6
      have d7 : w24.cell? ⟨G, 7, none⟩ = some (.int .i64 x7) := kt.cell 7
      go_wp2_with fail
      with_reducible refine (same_tags _ _ _ _ _ _ _ _ _).mono ?_
      rintro e w25 ⟨rfl, b2⟩
      replace H := H.bel b2
      replace kt := kt.frm (ex := fun _ => False) (Frm.of_below b2) id
      replace ku := ku.frm (ex := fun _ => False) (Frm.of_below b2) id
      replace kx := kx.frm (ex := fun _ => False) (Frm.of_below b2) id
      replace ky := ky.frm (ex := fun _ => False) (Frm.of_below b2) id
      replace kv := kv.frm (ex := fun _ => False) (Frm.of_below b2) id
      replace kw := kw.frm (ex := fun _ => False) (Frm.of_below b2) id
      replace b := b.trans (b2.mono hsz)
      replace hsz := Nat.le_trans hsz b2.size
      clear b2
      clear c0 c1 c2 c3 c4 c5 c6 c7
      clear d0 d1 d2 d3 d4 d5 d6 d7
      have c0 : w25.cell? ⟨P3, 0, none⟩ = some (.int .i64 y0) := kv.cell 0
      have c1 : w25.cell? ⟨P3, 1, none⟩ = some (.int .i64 y1) := kv.cell 1
      have c2 : w25.cell? ⟨P3, 2, none⟩ = some (.int .u64 y2) := kv.cell 2
      have c3 : w25.cell? ⟨P3, 3, none⟩ = some (.int .u64 y3) := kv.cell 3
      have c4 : w25.cell? ⟨P3, 4, none⟩ = some (.int .i64 y4) := kv.cell 4
      have c5 : w25.cell? ⟨P3, 5, none⟩ = some (.int .i64 y5) := kv.cell 5
      have c6 : w25.cell? ⟨P3, 6, none⟩ = some (.int .i64 y6) := kv.cell 6
      have c7 : w25.cell? ⟨P3, 7, none⟩ = some (.int .i64 y7) := kv.cell 7
      have d0 : w25.cell? ⟨G + 1, 0, none⟩ = some (.int .i64 y0) := ku.cell 0
      have d1 : w25.cell? ⟨G + 1, 1, none⟩ = some (.int .i64 y1) := ku.cell 1
      have d2 : w25.cell? ⟨G + 1, 2, none⟩ = some (.int .u64 y2) := ku.cell 2
      have d3 : w25.cell? ⟨G + 1, 3, none⟩ = some (.int .u64 y3) := ku.cell 3
      have d4 : w25.cell? ⟨G + 1, 4, none⟩ = some (.int .i64 y4) := ku.cell 4
      have d5 : w25.cell? ⟨G + 1, 5, none⟩ = some (.int .i64 y5) := ku.cell 5
      have d6 : w25.cell? ⟨G + 1, 6, none⟩ = some (.int .i64 y6) := ku.cell 6
      have d7 : w25.cell? ⟨G + 1, 7, none⟩ = some (.int .i64 y7) := ku.cell 7
      go_wp2_with fail
      with_reducible refine (same_tags _ _ _ _ _ _ _ _ _).mono ?_
      rintro e w26 ⟨rfl, b2⟩
      replace H := H.bel b2
      replace kt := kt.frm (ex := fun _ => False) (Frm.of_below b2) id
      replace ku := ku.frm (ex := fun _ => False) (Frm.of_below b2) id
      replace kx := kx.frm (ex := fun _ => False) (Frm.of_below b2) id
      replace ky := ky.frm (ex := fun _ => False) (Frm.of_below b2) id
      replace kv := kv.frm (ex := fun _ => False) (Frm.of_below b2) id
      replace kw := kw.frm (ex := fun _ => False) (Frm.of_below b2) id
      replace b := b.trans (b2.mono hsz)
      replace hsz := Nat.le_trans hsz b2.size
      clear b2
      clear c0 c1 c2 c3 c4 c5 c6 c7
      clear d0 d1 d2 d3 d4 d5 d6 d7
      have c0 : w26.cell? ⟨P4, 0, none⟩ = some (.int .i64 y0) := kw.cell 0
      have c1 : w26.cell? ⟨P4, 1, none⟩ = some (.int .i64 y1) := kw.cell 1
      have c2 : w26.cell? ⟨P4, 2, none⟩ = some (.int .u64 y2) := kw.cell 2
      have c3 : w26.cell? ⟨P4, 3, none⟩ = some (.int .u64 y3) := kw.cell 3
      have c4 : w26.cell? ⟨P4, 4, none⟩ = some (.int .i64 y4) := kw.cell 4
      have c5 : w26.cell? ⟨P4, 5, none⟩ = some (.int .i64 y5) := kw.cell 5
      have c6 : w26.cell? ⟨P4, 6, none⟩ = some (.int .i64 y6) := kw.cell 6
      have c7 : w26.cell? ⟨P4, 7, none⟩ = some (.int .i64 y7) := kw.cell 7
      have d0 : w26.cell? ⟨G + 1, 0, none⟩ = some (.int .i64 y0) := ku.cell 0
      have d1 : w26.cell? ⟨G + 1, 1, none⟩ = some (.int .i64 y1) := ku.cell 1
      have d2 : w26.cell? ⟨G + 1, 2, none⟩ = some (.int .u64 y2) := ku.cell 2
      have d3 : w26.cell? ⟨G + 1, 3, none⟩ = some (.int .u64 y3) := ku.cell 3
      have d4 : w26.cell? ⟨G + 1, 4, none⟩ = some (.int .i64 y4) := ku.cell 4
      have d5 : w26.cell? ⟨G + 1, 5, none⟩ = some (.int .i64 y5) := ku.cell 5
      have d6 : w26.cell? ⟨G + 1, 6, none⟩ = some (.int .i64 y6) := ku.cell 6
      have d7 : w26.cell? ⟨G + 1, 7, none⟩ = some (.int .i64 y7) := ku.cell 7
      go_wp2_with fail
      with_reducible refine (same_tags _ _ _ _ _ _ _ _ _).mono ?_
      rintro e w27 ⟨rfl, b2⟩
      replace H := H.bel b2
      replace kt := kt.frm (ex := fun _ => False) (Frm.of_below b2) id
      replace ku := ku.frm (ex := fun _ => False) (Frm.of_below b2) id
      replace kx := kx.frm (ex := fun _ => False) (Frm.of_below b2) id
      replace ky := ky.frm (ex := fun _ => False) (Frm.of_below b2) id
      replace kv := kv.frm (ex := fun _ => False) (Frm.of_below b2) id
      replace kw := kw.frm (ex := fun _ => False) (Frm.of_below b2) id
      replace b := b.trans (b2.mono hsz)
      replace hsz := Nat.le_trans hsz b2.size
      clear b2
      clear c0 c1 c2 c3 c4 c5 c6 c7
      clear d0 d1 d2 d3 d4 d5 d6 d7
      obtain ⟨hdis, hrows⟩ := H.picked [0, 1, 2, 3, 4, 5] (by decide) (by intro c hc; simp only [List.mem_cons, List.not_mem_nil, or_false] at hc; simp only [List.length_cons, List.length_nil]; omega)
      have hall : ∀ r ∈ Hold.pick [((⟨A1, 26, z1⟩ : Row), LB), (⟨A2, 26, z2⟩, MB), (⟨A3, 26, z3⟩, LB), (⟨A4, 54, z4⟩, LL), (⟨A5, 54, z5⟩, ML), (⟨A6, 54, z6⟩, LL), (⟨A7, 26, z7⟩, l4), (⟨A8, 54, z8⟩, ML)] [0, 1, 2, 3, 4, 5], r.n ≤ 140737488355000 := by
        intro r hr'
        simp only [Hold.pick, List.map_cons, List.map_nil, List.mem_cons, List.not_mem_nil, or_false] at hr'
        rcases hr' with rfl | rfl | rfl | rfl | rfl | rfl
        all_goals (show (_ : Nat) ≤ _; simp only [List.getD_cons_succ, List.getD_cons_zero]; omega)
      have hu := unmet_any w27.heap.size 6 6 (Hold.pick [((⟨A1, 26, z1⟩ : Row), LB), (⟨A2, 26, z2⟩, MB), (⟨A3, 26, z3⟩, LB), (⟨A4, 54, z4⟩, LL), (⟨A5, 54, z5⟩, ML), (⟨A6, 54, z6⟩, LL), (⟨A7, 26, z7⟩, l4), (⟨A8, 54, z8⟩, ML)] [0, 1, 2, 3, 4, 5]) [] (w27.alloc (.cells #[.slice A1 26 z1, .slice A2 26 z2, .slice A3 26 z3, .slice A4 54 z4, .slice A5 54 z5, .slice A6 54 z6] 22)) rfl (Blk.new w27 22 [.slice A1 26 z1, .slice A2 26 z2, .slice A3 26 z3, .slice A4 54 z4, .slice A5 54 z5, .slice A6 54 z6]) hdis (by decide) (fun j r hj => ⟨by obtain ⟨⟨xs, sp, o⟩, _⟩ := hrows j r hj; exact ⟨xs, sp, o.alloc _⟩, hall r (List.mem_of_getElem? hj)⟩)
      have hlo : ∀ q, Of (Hold.pick [((⟨A1, 26, z1⟩ : Row), LB), (⟨A2, 26, z2⟩, MB), (⟨A3, 26, z3⟩, LB), (⟨A4, 54, z4⟩, LL), (⟨A5, 54, z5⟩, ML), (⟨A6, 54, z6⟩, LL), (⟨A7, 26, z7⟩, l4), (⟨A8, 54, z8⟩, ML)] [0, 1, 2, 3, 4, 5]) q → B ≤ q := fun q ⟨j, r, hj, hq⟩ => (hrows j r hj).2 q hq
      have HLO := Lib.hid hlo
      have HU := Lib.hid hu
      clear hlo hu hall hrows hdis H kt ku kx ky kv kw
      go_wp2_with fail
      have b3 : Below B w2 (w27.alloc (.cells #[.slice A1 26 z1, .slice A2 26 z2, .slice A3 26 z3, .slice A4 54 z4, .slice A5 54 z5, .slice A6 54 z6] 22)) := b.alloc hsz _
      with_reducible refine HU.out.mono ?_
      rintro e w28 ⟨rfl, hf⟩
      have b2 := below_frm b3 (by simp; omega) hf HLO.out
      have bout : Below w.heap.size w w28 := B0.out.trans (b2.mono (HB.out ▸ B0.out.size))
      clear hf HU HLO b3 b b2
      go_wp2
      go_ret
      exact ⟨rfl, bout⟩
end Go.Proofs.YtekbjcagjkcaiaaDoor
