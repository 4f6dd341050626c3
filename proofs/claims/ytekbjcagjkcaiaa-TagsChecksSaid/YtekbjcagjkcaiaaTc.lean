/- The walks of TagsChecks that the printer does not serve: shape (a closure), Check, the law. -/
import Derived.Test.YtekbjcagjkcaiaaTm
import Derived.Test.YtekbjcagjkcaiaaMem
import Derived.Lib.Hide
namespace Go.Proofs.Ytekbjcagjkcaiaa
open Go.RowKit Go.Proofs.Ytekbjcagjkcaiaa.PTagsChecks Go.Proofs.YtekbjcagjkcaiaaW.PrintWords
set_option linter.unusedVariables false
set_option linter.unusedSimpArgs false
def shp (b p s : Int) : Bool := decide (8 ≤ b ∧ b ≤ 4096 ∧ 4 ≤ p ∧ p ≤ 256 ∧ 1 ≤ s ∧ s ≤ 8 ∧ b * p ≤ 65536)
theorem shp_no {b p s : Int} (h : ¬ (8 ≤ b ∧ b ≤ 4096 ∧ 4 ≤ p ∧ p ≤ 256 ∧ 1 ≤ s ∧ s ≤ 8 ∧ b * p ≤ 65536)) : false = shp b p s := (decide_eq_false h).symm
theorem shp_wrap {b p s : Int} (h1 : 8 ≤ b) (h2 : b ≤ 4096) (h3 : 4 ≤ p) (h4 : p ≤ 256) (h5 : 1 ≤ s) (h6 : s ≤ 8) : decide (wrap64 (b * p) ≤ 65536) = shp b p s := by
  have hu : b * p ≤ 4096 * 256 := Int.mul_le_mul h2 h4 (by omega) (by decide)
  have hl : 0 ≤ b * p := Int.mul_nonneg (by omega) (by omega)
  have hw : wrap64 (b * p) = b * p := by unfold wrap64; omega
  unfold shp
  rw [hw]
  simp only [h1, h2, h3, h4, h5, h6, true_and]
theorem shp_s {b p s : Int} (h : shp b p s = true) : 1 ≤ s ∧ s ≤ 8 := by
  have := of_decide_eq_true h
  exact ⟨this.2.2.2.2.1, this.2.2.2.2.2.1⟩
set_option maxHeartbeats 1600000 in
theorem shape_any (b p s : Int) (w : World) : Calls Try.prog 7 #[.agg #[.int .i64 b, .int .i64 p, .int .i64 s]] w fun e w' => e = .returned (.bool (shp b p s)) ∧ Below w.heap.size w w' := by
  have hB : Below w.heap.size w (w.alloc (.cells #[.int .i64 b, .int .i64 p, .int .i64 s] 23)) := (Below.refl _ w).alloc (Nat.le_refl _) _
  go_enter Try.func7, Try.ntmps7
  go_wp2
  all_goals go_ret
  all_goals refine ⟨?_, hB⟩
  all_goals first
    | exact congrArg (fun x => Ending.returned (Value.bool x)) (shp_wrap (by assumption) (by assumption) (by assumption) (by assumption) (by assumption) (by assumption))
    | exact congrArg (fun x => Ending.returned (Value.bool x)) (shp_no (by omega))
def chk (b p s k f se be o c n z : Int) : Int :=
  if shp b p s = true then
    (if (1 ≤ k ∧ k ≤ 4) ∧ (1 ≤ se ∧ se ≤ 281474976710655 ∧ 1 ≤ be ∧ be ≤ se) ∧ (0 ≤ z ∧ z ≤ 2072 * s ∧ n ≤ 256 * s) ∧ mayS k f o c n = true then 0 else 61)
  else 40
theorem chk_40 {b p s k f se be o c n z : Int} (h : ¬ shp b p s = true) : (40 : Int) = chk b p s k f se be o c n z := by
  unfold chk; rw [if_neg h]
theorem chk_61 {b p s k f se be o c n z : Int} (h : shp b p s = true) (h2 : ¬ ((1 ≤ k ∧ k ≤ 4) ∧ (1 ≤ se ∧ se ≤ 281474976710655 ∧ 1 ≤ be ∧ be ≤ se) ∧ (0 ≤ z ∧ z ≤ 2072 * s ∧ n ≤ 256 * s) ∧ mayS k f o c n = true)) : (61 : Int) = chk b p s k f se be o c n z := by
  unfold chk; rw [if_pos h, if_neg h2]
theorem wrap_s {b p s : Int} (h : shp b p s = true) : wrap64 (2072 * s) = 2072 * s ∧ wrap64 (256 * s) = 256 * s := by
  have := shp_s h
  unfold wrap64
  omega
theorem ret_i {x y : Int} (h : x = y) : Ending.returned (Value.int .i64 x) = Ending.returned (Value.int .i64 y) := by rw [h]
set_option maxHeartbeats 3200000 in
theorem check_any (b p s k f se be o c n z : Int) (w : World) : Calls Try.prog 5 #[.agg #[.int .i64 b, .int .i64 p, .int .i64 s], .agg #[.int .i64 k, .int .i64 f, .int .u64 se, .int .u64 be, .int .i64 o, .int .i64 c, .int .i64 n, .int .i64 z]] w fun e w' =>
    e = .returned (.int .i64 (chk b p s k f se be o c n z)) ∧ Below w.heap.size w w' := by
  have hB : Below w.heap.size w ((w.alloc (.cells #[.int .i64 b, .int .i64 p, .int .i64 s] 23)).alloc (.cells #[.int .i64 k, .int .i64 f, .int .u64 se, .int .u64 be, .int .i64 o, .int .i64 c, .int .i64 n, .int .i64 z] 26)) := ((Below.refl _ w).alloc (Nat.le_refl _) _).alloc (by simp) _
  have hbg : Blk ((w.alloc (.cells #[.int .i64 b, .int .i64 p, .int .i64 s] 23)).alloc (.cells #[.int .i64 k, .int .i64 f, .int .u64 se, .int .u64 be, .int .i64 o, .int .i64 c, .int .i64 n, .int .i64 z] 26)) w.heap.size 23 [.int .i64 b, .int .i64 p, .int .i64 s] := (Blk.new w _ [.int .i64 b, .int .i64 p, .int .i64 s]).alloc _
  have hbt : Blk ((w.alloc (.cells #[.int .i64 b, .int .i64 p, .int .i64 s] 23)).alloc (.cells #[.int .i64 k, .int .i64 f, .int .u64 se, .int .u64 be, .int .i64 o, .int .i64 c, .int .i64 n, .int .i64 z] 26)) (w.heap.size + 1) 26 [.int .i64 k, .int .i64 f, .int .u64 se, .int .u64 be, .int .i64 o, .int .i64 c, .int .i64 n, .int .i64 z] := by
    have h := Blk.new (w.alloc (.cells #[.int .i64 b, .int .i64 p, .int .i64 s] 23)) 26 [.int .i64 k, .int .i64 f, .int .u64 se, .int .u64 be, .int .i64 o, .int .i64 c, .int .i64 n, .int .i64 z]
    rw [World.size_alloc] at h
    exact h
  go_enter Try.func5, Try.ntmps5
  go_wp2_with fail
  with_reducible refine (shape_any b p s _).mono ?_
  rintro e w3 ⟨rfl, hB3⟩
  replace hbg := hbg.frm (Frm.of_below (ex := fun _ => False) hB3) (fun h => h)
  replace hbt := hbt.frm (Frm.of_below (ex := fun _ => False) hB3) (fun h => h)
  replace hB := hB.trans (hB3.mono hB.size)
  clear hB3
  have g2 : w3.cell? ⟨w.heap.size, 2, none⟩ = some (.int .i64 s) := by rw [hbg.cell]; rfl
  have t0 : w3.cell? ⟨w.heap.size + 1, 0, none⟩ = some (.int .i64 k) := by rw [hbt.cell]; rfl
  have t1 : w3.cell? ⟨w.heap.size + 1, 1, none⟩ = some (.int .i64 f) := by rw [hbt.cell]; rfl
  have t2 : w3.cell? ⟨w.heap.size + 1, 2, none⟩ = some (.int .u64 se) := by rw [hbt.cell]; rfl
  have t3 : w3.cell? ⟨w.heap.size + 1, 3, none⟩ = some (.int .u64 be) := by rw [hbt.cell]; rfl
  have t4 : w3.cell? ⟨w.heap.size + 1, 4, none⟩ = some (.int .i64 o) := by rw [hbt.cell]; rfl
  have t5 : w3.cell? ⟨w.heap.size + 1, 5, none⟩ = some (.int .i64 c) := by rw [hbt.cell]; rfl
  have t6 : w3.cell? ⟨w.heap.size + 1, 6, none⟩ = some (.int .i64 n) := by rw [hbt.cell]; rfl
  have t7 : w3.cell? ⟨w.heap.size + 1, 7, none⟩ = some (.int .i64 z) := by rw [hbt.cell]; rfl
  go_wp2
  any_goals go_ret
  any_goals
    refine ⟨?_, hB⟩
    first
      | exact ret_i (chk_40 (by simp_all))
      | (have hsp : shp b p s = true := by simp_all
         have hw := wrap_s hsp
         exact ret_i (chk_61 hsp (by rintro ⟨a1, a2, a3, a4⟩; omega)))
  have hsp : shp b p s = true := by simp_all
  have hk : 1 ≤ k ∧ k ≤ 4 := by assumption
  obtain ⟨r1, r2, r3, r4, r5, r6, hR, hM⟩ := rule_may k f se be o c n z hk
  have hg : ∀ wx, Calls Try.prog 8 #[.int .i64 k] wx fun e w' => ∃ A cc, e = .returned (.agg #[.slice A r1.length cc, .int .i64 r2, .int .i64 r3, .int .i64 r4, .int .i64 r5, .bool r6]) ∧ Kd.C (Kd.int .i64) w' A r1.length r1 ∧ r1.length ≤ cc ∧ Below wx.heap.size wx w' := fun wx =>
    (tags_ruleOf.calls k r1 r2 r3 r4 r5 r6 wx hR).mono (fun e w' ⟨v0, he, hv, hb⟩ => by
      obtain ⟨A, cc, rfl, hl, hC⟩ := Kd.R_reads hv
      exact ⟨A, cc, he, hC, hl, hb⟩)
  have hBd : Below w.heap.size w w3.drew := ⟨hB.os, hB.tape, hB.output, hB.size, hB.block⟩
  clear hR hbg g2
  go_region_law (first
    | (go_simp; go_at_call 8; (with_reducible refine (hg _).mono ?_); rintro e w4 ⟨A, cc, rfl, hC, hl, hb4⟩; have hbt4 := Blk.frm (w := w3.drew) hbt (Frm.of_below (ex := fun _ => False) hb4) (fun h => h); have s0 : w4.cell? ⟨w.heap.size + 1, 0, none⟩ = some (.int .i64 k) := (by rw [hbt4.cell]; rfl); have s1 : w4.cell? ⟨w.heap.size + 1, 1, none⟩ = some (.int .i64 f) := (by rw [hbt4.cell]; rfl); have s2 : w4.cell? ⟨w.heap.size + 1, 2, none⟩ = some (.int .u64 se) := (by rw [hbt4.cell]; rfl); have s3 : w4.cell? ⟨w.heap.size + 1, 3, none⟩ = some (.int .u64 be) := (by rw [hbt4.cell]; rfl); have s4 : w4.cell? ⟨w.heap.size + 1, 4, none⟩ = some (.int .i64 o) := (by rw [hbt4.cell]; rfl); have s5 : w4.cell? ⟨w.heap.size + 1, 5, none⟩ = some (.int .i64 c) := (by rw [hbt4.cell]; rfl); have s6 : w4.cell? ⟨w.heap.size + 1, 6, none⟩ = some (.int .i64 n) := (by rw [hbt4.cell]; rfl); have s7 : w4.cell? ⟨w.heap.size + 1, 7, none⟩ = some (.int .i64 z) := (by rw [hbt4.cell]; rfl); have hB4 := hBd.trans (hb4.mono hBd.size))
    | (go_simp; go_at_call 9; (with_reducible refine (tags_rule_may.calls 6 A cc r1 r2 r3 r4 r5 r6 k f se be o c n z _ w4 hC hl hM).mono ?_); rintro e w5 ⟨rfl, hb5⟩; have hB5 := hB4.trans (hb5.mono hB4.size)))
  all_goals
    cases hmay : mayS k f o c n
    · go_wp2
      go_ret
      refine ⟨ret_i (chk_61 hsp (by rintro ⟨_, _, _, a4⟩; rw [hmay] at a4; cases a4)), by assumption⟩
    · have hw := wrap_s hsp
      have h0 : (0 : Int) = chk b p s k f se be o c n z := by
        unfold chk
        rw [if_pos hsp, if_pos ⟨hk, by omega, by omega, hmay⟩]
      have H0 := Lib.hid h0
      clear h0 hw
      go_wp2
      go_ret
      exact ⟨ret_i H0.out, by assumption⟩
end Go.Proofs.Ytekbjcagjkcaiaa
