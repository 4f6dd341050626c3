/- Which tags may be: tags.Check. -/
import Derived.Test.YtekbjcagjkcaiaaDoorTf
import Derived.Deep.RegionLaw
namespace Go.Proofs.YtekbjcagjkcaiaaDoor
open Go.RowKit
set_option linter.unusedVariables false
set_option linter.unusedSimpArgs false
/-- What a kind's rule lets be. -/
def mayS (k f o ch n : Int) : Bool :=
  if k = 2 then mayD (anyTo [0, 1] f 2) false 2 1048575 0 1 k f o ch n
  else if k = 3 then mayD (anyTo [0, 1, 2] f 3) false 2 1048575 1048575 1 k f o ch n
  else if k = 4 then mayD (anyTo [0, 4] f 2) false 1 65536 65536 4 k f o ch n
  else mayD (anyTo [0] f 1) true 0 0 0 0 k f o ch n
theorem rule_both (k f o ch n : Int) : ∃ (fl : List Int) (a b c d : Int) (em : Bool), fl.length ≤ 9 ∧ 0 ≤ a ∧ (∀ w, Calls Tryd.prog 38 #[.int .i64 k] w (RuleP fl a b c d em w)) ∧ mayD (anyTo fl f fl.length) em a b c d k f o ch n = mayS k f o ch n := by
  unfold mayS
  by_cases h2 : k = 2
  · subst h2
    exact ⟨[0, 1], 2, 1048575, 0, 1, false, by decide, by decide, ruleOf_2, rfl⟩
  · rw [if_neg h2]
    by_cases h3 : k = 3
    · subst h3
      exact ⟨[0, 1, 2], 2, 1048575, 1048575, 1, false, by decide, by decide, ruleOf_3, rfl⟩
    · rw [if_neg h3]
      by_cases h4 : k = 4
      · subst h4
        exact ⟨[0, 4], 1, 65536, 65536, 4, false, by decide, by decide, ruleOf_4, rfl⟩
      · rw [if_neg h4]
        exact ⟨[0], 0, 0, 0, 0, true, by decide, by decide, ruleOf_else k h2 h3 h4, rfl⟩
def shp (b p s : Int) : Bool := decide (8 ≤ b ∧ b ≤ 4096 ∧ 4 ≤ p ∧ p ≤ 256 ∧ 1 ≤ s ∧ s ≤ 8 ∧ b * p ≤ 65536)
theorem shp_no {b p s : Int} (h : ¬ (8 ≤ b ∧ b ≤ 4096 ∧ 4 ≤ p ∧ p ≤ 256 ∧ 1 ≤ s ∧ s ≤ 8 ∧ b * p ≤ 65536)) : false = shp b p s := (decide_eq_false h).symm
theorem shp_wrap {b p s : Int} (h1 : 8 ≤ b) (h2 : b ≤ 4096) (h3 : 4 ≤ p) (h4 : p ≤ 256) (h5 : 1 ≤ s) (h6 : s ≤ 8) : decide (wrap64 (b * p) ≤ 65536) = shp b p s := by
  have hu : b * p ≤ 4096 * 256 := Int.mul_le_mul h2 h4 (by omega) (by decide)
  have hl : 0 ≤ b * p := Int.mul_nonneg (by omega) (by omega)
  have hw : wrap64 (b * p) = b * p := by unfold wrap64; omega
  unfold shp
  rw [hw]
  simp only [h1, h2, h3, h4, h5, h6, true_and]
theorem shp_s {b p s : Int} (h : shp b p s = true) : 1 ≤ s ∧ s ≤ 8 := by
  have := of_decide_eq_true h
  exact ⟨this.2.2.2.2.1, this.2.2.2.2.2.1⟩
set_option maxHeartbeats 1600000 in
theorem shape_any (b p s : Int) (w : World) : Calls Tryd.prog 37 #[.agg #[.int .i64 b, .int .i64 p, .int .i64 s]] w fun e w' => e = .returned (.bool (shp b p s)) ∧ Below w.heap.size w w' := by
  have hB : Below w.heap.size w (w.alloc (.cells #[.int .i64 b, .int .i64 p, .int .i64 s] 46)) := (Below.refl _ w).alloc (Nat.le_refl _) _
  go_enter Tryd.func37, Tryd.ntmps37
  go_wp2
  all_goals go_ret
  all_goals refine ⟨?_, hB⟩
  all_goals first
    | exact congrArg (fun x => Ending.returned (Value.bool x)) (shp_wrap (by assumption) (by assumption) (by assumption) (by assumption) (by assumption) (by assumption))
    | exact congrArg (fun x => Ending.returned (Value.bool x)) (shp_no (by omega))
def chk (b p s k f se be o c n z : Int) : Int :=
  if shp b p s = true then
    (if (1 ≤ k ∧ k ≤ 4) ∧ (1 ≤ se ∧ se ≤ 281474976710655 ∧ 1 ≤ be ∧ be ≤ se) ∧ (0 ≤ z ∧ z ≤ 2072 * s ∧ n ≤ 256 * s) ∧ mayS k f o c n = true then 0 else 61)
  else 40
theorem chk_40 {b p s k f se be o c n z : Int} (h : ¬ shp b p s = true) : (40 : Int) = chk b p s k f se be o c n z := by
  unfold chk; rw [if_neg h]
theorem chk_61 {b p s k f se be o c n z : Int} (h : shp b p s = true) (h2 : ¬ ((1 ≤ k ∧ k ≤ 4) ∧ (1 ≤ se ∧ se ≤ 281474976710655 ∧ 1 ≤ be ∧ be ≤ se) ∧ (0 ≤ z ∧ z ≤ 2072 * s ∧ n ≤ 256 * s) ∧ mayS k f o c n = true)) : (61 : Int) = chk b p s k f se be o c n z := by
  unfold chk; rw [if_pos h, if_neg h2]
theorem wrap_s {b p s : Int} (h : shp b p s = true) : wrap64 (2072 * s) = 2072 * s ∧ wrap64 (256 * s) = 256 * s := by
  have := shp_s h
  unfold wrap64
  omega
theorem ret_i {x y : Int} (h : x = y) : Ending.returned (Value.int .i64 x) = Ending.returned (Value.int .i64 y) := by rw [h]
set_option maxHeartbeats 3200000 in
theorem check_any (b p s k f se be o c n z : Int) (ho2 : o ≤ 9223372036854775807) (w : World) : Calls Tryd.prog 24 #[.agg #[.int .i64 b, .int .i64 p, .int .i64 s], .agg #[.int .i64 k, .int .i64 f, .int .u64 se, .int .u64 be, .int .i64 o, .int .i64 c, .int .i64 n, .int .i64 z]] w fun e w' =>
    e = .returned (.int .i64 (chk b p s k f se be o c n z)) ∧ Below w.heap.size w w' := by
  have hB : Below w.heap.size w ((w.alloc (.cells #[.int .i64 b, .int .i64 p, .int .i64 s] 46)).alloc (.cells #[.int .i64 k, .int .i64 f, .int .u64 se, .int .u64 be, .int .i64 o, .int .i64 c, .int .i64 n, .int .i64 z] 25)) := ((Below.refl _ w).alloc (Nat.le_refl _) _).alloc (by simp) _
  have hbg : Blk ((w.alloc (.cells #[.int .i64 b, .int .i64 p, .int .i64 s] 46)).alloc (.cells #[.int .i64 k, .int .i64 f, .int .u64 se, .int .u64 be, .int .i64 o, .int .i64 c, .int .i64 n, .int .i64 z] 25)) w.heap.size 46 [.int .i64 b, .int .i64 p, .int .i64 s] := (Blk.new w _ [.int .i64 b, .int .i64 p, .int .i64 s]).alloc _
  have hbt : Blk ((w.alloc (.cells #[.int .i64 b, .int .i64 p, .int .i64 s] 46)).alloc (.cells #[.int .i64 k, .int .i64 f, .int .u64 se, .int .u64 be, .int .i64 o, .int .i64 c, .int .i64 n, .int .i64 z] 25)) (w.heap.size + 1) 25 [.int .i64 k, .int .i64 f, .int .u64 se, .int .u64 be, .int .i64 o, .int .i64 c, .int .i64 n, .int .i64 z] := by
    have h := Blk.new (w.alloc (.cells #[.int .i64 b, .int .i64 p, .int .i64 s] 46)) 25 [.int .i64 k, .int .i64 f, .int .u64 se, .int .u64 be, .int .i64 o, .int .i64 c, .int .i64 n, .int .i64 z]
    rw [World.size_alloc] at h
    exact h
  go_enter Tryd.func24, Tryd.ntmps24
  go_wp2_with fail
  with_reducible refine (shape_any b p s _).mono ?_
  rintro e w3 ⟨rfl, hB3⟩
  replace hbg := hbg.frm (Frm.of_below (ex := fun _ => False) hB3) (fun h => h)
  replace hbt := hbt.frm (Frm.of_below (ex := fun _ => False) hB3) (fun h => h)
  replace hB := hB.trans (hB3.mono hB.size)
  clear hB3
  have g2 : w3.cell? ⟨w.heap.size, 2, none⟩ = some (.int .i64 s) := by rw [hbg.cell]; rfl
  have t0 : w3.cell? ⟨w.heap.size + 1, 0, none⟩ = some (.int .i64 k) := by rw [hbt.cell]; rfl
  have t1 : w3.cell? ⟨w.heap.size + 1, 1, none⟩ = some (.int .i64 f) := by rw [hbt.cell]; rfl
  have t2 : w3.cell? ⟨w.heap.size + 1, 2, none⟩ = some (.int .u64 se) := by rw [hbt.cell]; rfl
  have t3 : w3.cell? ⟨w.heap.size + 1, 3, none⟩ = some (.int .u64 be) := by rw [hbt.cell]; rfl
  have t4 : w3.cell? ⟨w.heap.size + 1, 4, none⟩ = some (.int .i64 o) := by rw [hbt.cell]; rfl
  have t5 : w3.cell? ⟨w.heap.size + 1, 5, none⟩ = some (.int .i64 c) := by rw [hbt.cell]; rfl
  have t6 : w3.cell? ⟨w.heap.size + 1, 6, none⟩ = some (.int .i64 n) := by rw [hbt.cell]; rfl
  have t7 : w3.cell? ⟨w.heap.size + 1, 7, none⟩ = some (.int .i64 z) := by rw [hbt.cell]; rfl
  go_wp2
  any_goals go_ret
  any_goals
    refine ⟨?_, hB⟩
    first
      | exact ret_i (chk_40 (by simp_all))
      | (have hsp : shp b p s = true := by simp_all
         have hw := wrap_s hsp
         exact ret_i (chk_61 hsp (by rintro ⟨a1, a2, a3, a4⟩; omega)))
  have hsp : shp b p s = true := by simp_all
  have hk : 1 ≤ k ∧ k ≤ 4 := by assumption
  obtain ⟨fl, ra, rb, rc, rd, em, hf9, ha0, hg, hM⟩ := rule_both k f o c n
  obtain ⟨m, hm⟩ : ∃ m, fl.length = m := ⟨_, rfl⟩
  unfold RuleP at hg
  rw [hm] at hf9 hM
  simp only [hm] at hg
  have HM := Lib.hid hm
  have hBd : Below w.heap.size w w3.drew := ⟨hB.os, hB.tape, hB.output, hB.size, hB.block⟩
  clear hbg g2 hm
  go_region_law (first
    | (go_simp; go_at_call 38; (refine (hg _).mono ?_); rintro e w4 ⟨gg, rfl, hC, hge, hb4⟩; have hbt4 := Blk.frm (w := w3.drew) hbt (Frm.of_below (ex := fun _ => False) hb4) (fun h => h); have s0 : w4.cell? ⟨w.heap.size + 1, 0, none⟩ = some (.int .i64 k) := (by rw [hbt4.cell]; rfl); have s1 : w4.cell? ⟨w.heap.size + 1, 1, none⟩ = some (.int .i64 f) := (by rw [hbt4.cell]; rfl); have s2 : w4.cell? ⟨w.heap.size + 1, 2, none⟩ = some (.int .u64 se) := (by rw [hbt4.cell]; rfl); have s3 : w4.cell? ⟨w.heap.size + 1, 3, none⟩ = some (.int .u64 be) := (by rw [hbt4.cell]; rfl); have s4 : w4.cell? ⟨w.heap.size + 1, 4, none⟩ = some (.int .i64 o) := (by rw [hbt4.cell]; rfl); have s5 : w4.cell? ⟨w.heap.size + 1, 5, none⟩ = some (.int .i64 c) := (by rw [hbt4.cell]; rfl); have s6 : w4.cell? ⟨w.heap.size + 1, 6, none⟩ = some (.int .i64 n) := (by rw [hbt4.cell]; rfl); have s7 : w4.cell? ⟨w.heap.size + 1, 7, none⟩ = some (.int .i64 z) := (by rw [hbt4.cell]; rfl); have hB4 := hBd.trans (hb4.mono hBd.size))
    | (go_simp; go_at_call 39; (with_reducible refine (may_any gg m fl ra rb rc rd em k f se be o c n z w4 HM.out hf9 hC ha0 ho2).mono ?_); rintro e w5 ⟨rfl, hb5⟩; rw [hM]; have hB5 := hB4.trans (hb5.mono hB4.size)))
  all_goals
    cases hmay : mayS k f o c n
    · go_wp2
      go_ret
      refine ⟨ret_i (chk_61 hsp (by rintro ⟨_, _, _, a4⟩; rw [hmay] at a4; cases a4)), by assumption⟩
    · have hw := wrap_s hsp
      have h0 : (0 : Int) = chk b p s k f se be o c n z := by
        unfold chk
        rw [if_pos hsp, if_pos ⟨hk, by omega, by omega, hmay⟩]
      have H0 := Lib.hid h0
      clear h0 hw
      go_wp2
      go_ret
      exact ⟨ret_i H0.out, by assumption⟩
end Go.Proofs.YtekbjcagjkcaiaaDoor
