/- What must come at any rate of tags: the walk of heads. -/
import Derived.Test.YtekbjcagjkcaiaaDoorTx
import Derived.Test.YtekbjcagjkcaiaaDoorTk
import Derived.Test.YtekbjcagjkcaiaaDoorTe
import Derived.Test.YtekbjcagjkcaiaaDoorRn
namespace Go.Proofs.YtekbjcagjkcaiaaDoor
open Go.RowKit
set_option linter.unusedVariables false
set_option linter.unusedSimpArgs false
def hdB : List UInt8 := packB 3 2 258 7 9 1 300 4000
theorem hdB_len : hdB.length = 26 := packB_len _ _ _ _ _ _ _ _
theorem hdB_tag : tagV hdB = .agg #[.int .i64 3, .int .i64 2, .int .u64 258, .int .u64 7, .int .i64 9, .int .i64 1, .int .i64 300, .int .i64 4000] := by
  unfold tagV
  rw [show fld hdB 0 1 = 3 from by decide +kernel]
  rw [show fld hdB 1 1 = 2 from by decide +kernel]
  rw [show fld hdB 2 6 = 258 from by decide +kernel]
  rw [show fld hdB 8 6 = 7 from by decide +kernel]
  rw [show fld hdB 14 4 = 9 from by decide +kernel]
  rw [show fld hdB 18 4 = 1 from by decide +kernel]
  rw [show fld hdB 22 2 = 300 from by decide +kernel]
  rw [show fld hdB 24 2 = 4000 from by decide +kernel]
  rfl
theorem hd_eq {u0 u1 u2 u3 u4 u5 u6 u7 : Nat} (h : (3 : Int) = u0 ∧ (2 : Int) = u1 ∧ (258 : Int) = u2 ∧ (7 : Int) = u3 ∧ (9 : Int) = u4 ∧ (1 : Int) = u5 ∧ (300 : Int) = u6 ∧ (4000 : Int) = u7) : packB u0 u1 u2 u3 u4 u5 u6 u7 = hdB := by
  obtain ⟨rfl, rfl, rfl, rfl, rfl, rfl, rfl, rfl⟩ : u0 = 3 ∧ u1 = 2 ∧ u2 = 258 ∧ u3 = 7 ∧ u4 = 9 ∧ u5 = 1 ∧ u6 = 300 ∧ u7 = 4000 := by omega
  rfl
theorem hd_pack (w : World) (hL : LayT w) : Calls Tryd.prog 20 #[.agg #[.int .i64 3, .int .i64 2, .int .u64 258, .int .u64 7, .int .i64 9, .int .i64 1, .int .i64 300, .int .i64 4000]] w fun e w' => ∃ A c sp, e = .returned (.tuple #[.slice A 26 c, .int .i64 0]) ∧ Owx w' 5 1 (.slice A 26 c) 26 (u8s hdB) sp ∧ Below w.heap.size w w' := by
  refine (Pack_any 3 2 258 7 9 1 300 4000 (by decide) (by decide) (by decide) (by decide) (by decide) (by decide) (by decide) (by decide) w hL).mono fun e w' h => ?_
  rcases h with ⟨u0, u1, u2, u3, u4, u5, u6, u7, heq, _, A, c, sp, k1, k2, _, k4⟩ | ⟨h, _⟩
  · rw [hd_eq heq] at k2
    exact ⟨A, c, sp, k1, k2, k4⟩
  · exact absurd (by unfold FitI; decide) h
theorem hd_lay (w : World) (hL : LayT w) (hS : SpT w) : Calls Tryd.prog 21 #[.agg #[.int .i64 3, .int .i64 2, .int .u64 258, .int .u64 7, .int .i64 9, .int .i64 1, .int .i64 300, .int .i64 4000]] w fun e w' => ∃ A c sp, e = .returned (.tuple #[.slice A 54 c, .int .i64 0]) ∧ Owx w' 5 1 (.slice A 54 c) 54 (u8s (layB hdB)) sp ∧ Below w.heap.size w w' := by
  refine (tLay_any 3 2 258 7 9 1 300 4000 (by decide) (by decide) (by decide) (by decide) (by decide) (by decide) (by decide) (by decide) w hL hS).mono fun e w' h => ?_
  rcases h with ⟨u0, u1, u2, u3, u4, u5, u6, u7, heq, _, A, c, sp, k1, k2, _, k4⟩ | ⟨h, _⟩
  · rw [hd_eq heq] at k2
    exact ⟨A, c, sp, k1, k2, k4⟩
  · exact absurd (by unfold FitI; decide) h
theorem hd_lift (A : Option Addr) (cap : Nat) (w : World) (hr : Rd w A (u8s (layB hdB))) (hL : LayT w) : Calls Tryd.prog 17 #[.slice A 54 cap] w fun e w' => e = .returned (.tuple #[.agg #[.int .i64 3, .int .i64 2, .int .u64 258, .int .u64 7, .int .i64 9, .int .i64 1, .int .i64 300, .int .i64 4000], .int .i64 (-1), .int .i64 0]) ∧ Below w.heap.size w w' := by
  refine Lift_ok A 54 cap 26 (layB hdB) hdB (-1) 3 2 258 7 9 1 300 4000 0 w (by rw [layB_len, hdB_len]) rfl hr (read_lay hdB (by rw [hdB_len]; decide)) hdB_len hL ?_
  intro A' cap' w' hr' hL'
  have h := Read_ok A' 26 cap' hdB w' hdB_len rfl hr' hL'
  rw [hdB_tag] at h
  exact h
set_option maxRecDepth 100000 in
set_option maxHeartbeats 6400000 in
theorem heads_any (w : World) (hL : LayT w) (hS : SpT w) : Calls Tryd.prog 23 #[] w fun e w' => e = .returned (.bool true) ∧ Below w.heap.size w w' := by
  have HL := Lib.hid hL
  have HS := Lib.hid hS
  clear hL hS
  obtain ⟨w1, hw1⟩ : ∃ x, x = w.alloc (.cells #[.int .i64 3, .int .i64 2, .int .u64 258, .int .u64 7, .int .i64 9, .int .i64 1, .int .i64 300, .int .i64 4000] 25) := ⟨_, rfl⟩
  have b : Below w.heap.size w w1 := by rw [hw1]; exact (Below.refl _ w).alloc (Nat.le_refl _) _
  have kt : Blk w1 w.heap.size 25 [.int .i64 3, .int .i64 2, .int .u64 258, .int .u64 7, .int .i64 9, .int .i64 1, .int .i64 300, .int .i64 4000] := by rw [hw1]; exact Blk.new w _ _
  obtain ⟨G, hG⟩ : ∃ G, G = w.heap.size := ⟨_, rfl⟩
  rw [← hG] at kt
  go_enter Tryd.func23, Tryd.ntmps23
  go_upto_region 2 with fail
  rw [← hw1, ← hG]
  clear hw1 hG
  have c0 : w1.cell? ⟨G, 0, none⟩ = some (.int .i64 3) := kt.cell 0
  have c1 : w1.cell? ⟨G, 1, none⟩ = some (.int .i64 2) := kt.cell 1
  have c2 : w1.cell? ⟨G, 2, none⟩ = some (.int .u64 258) := kt.cell 2
  have c3 : w1.cell? ⟨G, 3, none⟩ = some (.int .u64 7) := kt.cell 3
  have c4 : w1.cell? ⟨G, 4, none⟩ = some (.int .i64 9) := kt.cell 4
  have c5 : w1.cell? ⟨G, 5, none⟩ = some (.int .i64 1) := kt.cell 5
  have c6 : w1.cell? ⟨G, 6, none⟩ = some (.int .i64 300) := kt.cell 6
  have c7 : w1.cell? ⟨G, 7, none⟩ = some (.int .i64 4000) := kt.cell 7
  go_wp2_with fail
  with_reducible refine (hd_pack _ (HL.out.below b)).mono ?_
  rintro e w2 ⟨A1, q1, s1, rfl, o1, b2⟩
  replace kt := kt.frm (ex := fun _ => False) (Frm.of_below b2) id
  replace b := b.trans (b2.mono b.size)
  clear c0 c1 c2 c3 c4 c5 c6 c7
  have c0 : w2.cell? ⟨G, 0, none⟩ = some (.int .i64 3) := kt.cell 0
  have c1 : w2.cell? ⟨G, 1, none⟩ = some (.int .i64 2) := kt.cell 1
  have c2 : w2.cell? ⟨G, 2, none⟩ = some (.int .u64 258) := kt.cell 2
  have c3 : w2.cell? ⟨G, 3, none⟩ = some (.int .u64 7) := kt.cell 3
  have c4 : w2.cell? ⟨G, 4, none⟩ = some (.int .i64 9) := kt.cell 4
  have c5 : w2.cell? ⟨G, 5, none⟩ = some (.int .i64 1) := kt.cell 5
  have c6 : w2.cell? ⟨G, 6, none⟩ = some (.int .i64 300) := kt.cell 6
  have c7 : w2.cell? ⟨G, 7, none⟩ = some (.int .i64 4000) := kt.cell 7
  go_wp2_with fail
  with_reducible refine (hd_lay _ (HL.out.below b) (HS.out.below b)).mono ?_
  rintro e w3 ⟨A2, q2, s2, rfl, o2, b3⟩
  replace kt := kt.frm (ex := fun _ => False) (Frm.of_below b3) id
  replace o1 := o1.bel b3
  replace b := b.trans (b3.mono b.size)
  obtain ⟨_, _, er, _, r2⟩ := o2.rd
  cases er
  clear c0 c1 c2 c3 c4 c5 c6 c7
  go_wp2_with fail
  with_reducible refine (hd_lift _ _ _ r2 (HL.out.below b)).mono ?_
  rintro e w4 ⟨rfl, b4⟩
  replace kt := kt.frm (ex := fun _ => False) (Frm.of_below b4) id
  replace o1 := o1.bel b4
  replace b := b.trans (b4.mono b.size)
  clear r2 o2 b2 b3 b4
  go_upto_region 5 with fail
  obtain ⟨w5, hw5⟩ : ∃ x, x = w4.alloc (.cells #[.int .i64 3, .int .i64 2, .int .u64 258, .int .u64 7, .int .i64 9, .int .i64 1, .int .i64 300, .int .i64 4000] 25) := ⟨_, rfl⟩
  have ku : Blk w5 w4.heap.size 25 [.int .i64 3, .int .i64 2, .int .u64 258, .int .u64 7, .int .i64 9, .int .i64 1, .int .i64 300, .int .i64 4000] := by rw [hw5]; exact Blk.new w4 _ _
  replace kt : Blk w5 G 25 [.int .i64 3, .int .i64 2, .int .u64 258, .int .u64 7, .int .i64 9, .int .i64 1, .int .i64 300, .int .i64 4000] := by rw [hw5]; exact kt.alloc _
  replace o1 : Owx w5 5 1 (.slice A1 26 q1) 26 (u8s hdB) s1 := by rw [hw5]; exact o1.alloc _
  replace b : Below w.heap.size w w5 := by rw [hw5]; exact b.alloc b.size _
  rw [← hw5]
  obtain ⟨Q, hQ⟩ : ∃ Q, Q = w4.heap.size := ⟨_, rfl⟩
  rw [← hQ] at ku ⊢
  clear hw5 hQ
  have hcq := o1.cap
  obtain ⟨_, _, er, hq26, r1⟩ := o1.rd
  cases er
  obtain ⟨ad, rfl, b0⟩ := r1.at_ (k := 0) (u := .int .u8 3) (by rw [u8s_bt _ _ (by rw [hdB_len]; decide), show (bt hdB 0).toNat = 3 from by decide +kernel]; rfl)
  obtain ⟨_, er, b1⟩ := r1.at_ (k := 2) (u := .int .u8 2) (by rw [u8s_bt _ _ (by rw [hdB_len]; decide), show (bt hdB 2).toNat = 2 from by decide +kernel]; rfl)
  cases er
  obtain ⟨_, er, b2⟩ := r1.at_ (k := 3) (u := .int .u8 1) (by rw [u8s_bt _ _ (by rw [hdB_len]; decide), show (bt hdB 3).toNat = 1 from by decide +kernel]; rfl)
  cases er
  obtain ⟨_, er, b3⟩ := r1.at_ (k := 22) (u := .int .u8 44) (by rw [u8s_bt _ _ (by rw [hdB_len]; decide), show (bt hdB 22).toNat = 44 from by decide +kernel]; rfl)
  cases er
  rw [addr_zero] at b0
  rw [add_pos ad 2 (by decide)] at b1
  rw [add_pos ad 3 (by decide)] at b2
  rw [add_pos ad 22 (by decide)] at b3
  have c0 : w5.cell? ⟨G, 0, none⟩ = some (.int .i64 3) := kt.cell 0
  have c1 : w5.cell? ⟨G, 1, none⟩ = some (.int .i64 2) := kt.cell 1
  have c2 : w5.cell? ⟨G, 2, none⟩ = some (.int .u64 258) := kt.cell 2
  have c3 : w5.cell? ⟨G, 3, none⟩ = some (.int .u64 7) := kt.cell 3
  have c4 : w5.cell? ⟨G, 4, none⟩ = some (.int .i64 9) := kt.cell 4
  have c5 : w5.cell? ⟨G, 5, none⟩ = some (.int .i64 1) := kt.cell 5
  have c6 : w5.cell? ⟨G, 6, none⟩ = some (.int .i64 300) := kt.cell 6
  have c7 : w5.cell? ⟨G, 7, none⟩ = some (.int .i64 4000) := kt.cell 7
  have d0 : w5.cell? ⟨Q, 0, none⟩ = some (.int .i64 3) := ku.cell 0
  have d1 : w5.cell? ⟨Q, 1, none⟩ = some (.int .i64 2) := ku.cell 1
  have d2 : w5.cell? ⟨Q, 2, none⟩ = some (.int .u64 258) := ku.cell 2
  have d3 : w5.cell? ⟨Q, 3, none⟩ = some (.int .u64 7) := ku.cell 3
  have d4 : w5.cell? ⟨Q, 4, none⟩ = some (.int .i64 9) := ku.cell 4
  have d5 : w5.cell? ⟨Q, 5, none⟩ = some (.int .i64 1) := ku.cell 5
  have d6 : w5.cell? ⟨Q, 6, none⟩ = some (.int .i64 300) := ku.cell 6
  have d7 : w5.cell? ⟨Q, 7, none⟩ = some (.int .i64 4000) := ku.cell 7
  go_wp2_with (go_at_call 13; (with_reducible refine (no_any _ _).mono ?_); rintro e w' ⟨rfl, rfl⟩)
  with_reducible refine (same_tags _ _ _ _ _ _ _ _ _).mono ?_
  rintro e w6 ⟨rfl, b6⟩
  replace kt := kt.frm (ex := fun _ => False) (Frm.of_below b6) id
  replace b := b.trans (b6.mono b.size)
  replace r1 := r1.below b6
  clear b0 b1 b2 b3 ku d0 d1 d2 d3 d4 d5 d6 d7 b6
  clear c0 c1 c2 c3 c4 c5 c6 c7
  have c0 : w6.cell? ⟨G, 0, none⟩ = some (.int .i64 3) := kt.cell 0
  have c1 : w6.cell? ⟨G, 1, none⟩ = some (.int .i64 2) := kt.cell 1
  have c2 : w6.cell? ⟨G, 2, none⟩ = some (.int .u64 258) := kt.cell 2
  have c3 : w6.cell? ⟨G, 3, none⟩ = some (.int .u64 7) := kt.cell 3
  have c4 : w6.cell? ⟨G, 4, none⟩ = some (.int .i64 9) := kt.cell 4
  have c5 : w6.cell? ⟨G, 5, none⟩ = some (.int .i64 1) := kt.cell 5
  have c6 : w6.cell? ⟨G, 6, none⟩ = some (.int .i64 300) := kt.cell 6
  have c7 : w6.cell? ⟨G, 7, none⟩ = some (.int .i64 4000) := kt.cell 7
  have e1 : chk 8 4 1 3 2 258 7 9 1 300 4000 = 61 := by decide +kernel
  have e2 : chk 8 4 2 3 2 258 7 9 1 300 4000 = 0 := by decide +kernel
  have k1 := fun wx => check_any 8 4 1 3 2 258 7 9 1 300 4000 (by decide) wx
  have k2 := fun wx => check_any 8 4 2 3 2 258 7 9 1 300 4000 (by decide) wx
  simp only [e1] at k1
  simp only [e2] at k2
  clear e1 e2
  have rn := fun wx => Read_no (some ad) 25 q1 wx (by decide) (by decide)
  unfold tagZ at rn
  have hsl : ∀ wx : World, (Instr.slice 22 (.slice (some ad) 26 q1) none (some (.int .i64 25)) none).run Tryd.prog wx = .ok (.slice (some ad) 25 q1) wx := fun wx => sl_to (some ad) 26 q1 25 (by omega) wx hcq
  go_wp2_with fail
  with_reducible refine (k1 _).mono ?_
  rintro e w7 ⟨rfl, b7⟩
  replace kt := kt.frm (ex := fun _ => False) (Frm.of_below b7) id
  replace b := b.trans (b7.mono b.size)
  clear b7 k1
  clear c0 c1 c2 c3 c4 c5 c6 c7
  have c0 : w7.cell? ⟨G, 0, none⟩ = some (.int .i64 3) := kt.cell 0
  have c1 : w7.cell? ⟨G, 1, none⟩ = some (.int .i64 2) := kt.cell 1
  have c2 : w7.cell? ⟨G, 2, none⟩ = some (.int .u64 258) := kt.cell 2
  have c3 : w7.cell? ⟨G, 3, none⟩ = some (.int .u64 7) := kt.cell 3
  have c4 : w7.cell? ⟨G, 4, none⟩ = some (.int .i64 9) := kt.cell 4
  have c5 : w7.cell? ⟨G, 5, none⟩ = some (.int .i64 1) := kt.cell 5
  have c6 : w7.cell? ⟨G, 6, none⟩ = some (.int .i64 300) := kt.cell 6
  have c7 : w7.cell? ⟨G, 7, none⟩ = some (.int .i64 4000) := kt.cell 7
  go_wp2_with fail
  with_reducible refine (k2 _).mono ?_
  rintro e w8 ⟨rfl, b8⟩
  replace b := b.trans (b8.mono b.size)
  clear c0 c1 c2 c3 c4 c5 c6 c7
  clear b8 k2 kt r1
  go_wp2_with fail
  with_reducible refine (rn _).mono ?_
  rintro e w9 ⟨rfl, b9⟩
  replace b := b.trans (b9.mono b.size)
  have b' := b.alloc b.size (.cells #[.int .i64 0, .int .i64 0, .int .u64 0, .int .u64 0, .int .i64 0, .int .i64 0, .int .i64 0, .int .i64 0] 25)
  clear b9 rn hsl b o1
  go_wp2_with (go_at_call 13; (with_reducible refine (no_any _ _).mono ?_); rintro e w' ⟨rfl, rfl⟩)
  go_ret
  exact ⟨rfl, b'⟩
end Go.Proofs.YtekbjcagjkcaiaaDoor
