/- Walks of fits (both), of the document's New; commands in memory. -/
import Derived.Test.YtagfcndpblekkaaJm
import Derived.Test.YtagfcndpblekkaaJp
import Derived.Lib.Hide
import Derived.Deep.RegionLaw
import Derived.StillTailTactics
import Derived.Laws.MakeOwn
import Derived.Deep.RegionHeld3
import Derived.Deep.DeepCutAuto
import Derived.Deep.CutBlock
namespace Go.Proofs.Ytagfcndpblekkaa
open Go.RowKit Go.Maps
set_option linter.unusedVariables false
set_option linter.unusedSimpArgs false
theorem fit_no {b p s : Int} (h : ¬ (8 ≤ b ∧ b ≤ 4096 ∧ 4 ≤ p ∧ p ≤ 256 ∧ 1 ≤ s ∧ s ≤ 8 ∧ b * p ≤ 65536)) : false = fitG b p s := (decide_eq_false h).symm
theorem fit_wrap {b p s : Int} (h1 : 8 ≤ b) (h2 : b ≤ 4096) (h3 : 4 ≤ p) (h4 : p ≤ 256) (h5 : 1 ≤ s) (h6 : s ≤ 8) : decide (wrap64 (b * p) ≤ 65536) = fitG b p s := by
  have hu : b * p ≤ 4096 * 256 := Int.mul_le_mul h2 h4 (by omega) (by decide)
  have hl : 0 ≤ b * p := Int.mul_nonneg (by omega) (by omega)
  have hw : wrap64 (b * p) = b * p := by unfold wrap64; omega
  unfold fitG
  rw [hw]
  simp only [h1, h2, h3, h4, h5, h6, true_and]
set_option maxHeartbeats 1600000 in
theorem fits_any (b p s : Int) (w : World) : Calls Try.prog 42 #[.agg #[.int .i64 b, .int .i64 p, .int .i64 s]] w fun e w' => e = .returned (.bool (fitG b p s)) ∧ Below w.heap.size w w' := by
  have hB : Below w.heap.size w (w.alloc (.cells #[.int .i64 b, .int .i64 p, .int .i64 s] 23)) := (Below.refl _ w).alloc (Nat.le_refl _) _
  go_enter Try.func42, Try.ntmps42
  go_wp2
  all_goals go_ret
  all_goals refine ⟨?_, hB⟩
  all_goals first
    | exact congrArg (fun x => Ending.returned (Value.bool x)) (fit_wrap (by assumption) (by assumption) (by assumption) (by assumption) (by assumption) (by assumption))
    | exact congrArg (fun x => Ending.returned (Value.bool x)) (fit_no (by omega))
set_option maxHeartbeats 1600000 in
theorem Fits_any (b p s : Int) (w : World) : Calls Try.prog 41 #[.agg #[.int .i64 b, .int .i64 p, .int .i64 s]] w fun e w' => e = .returned (.bool (fitG b p s)) ∧ Below w.heap.size w w' := by
  have hB : Below w.heap.size w (w.alloc (.cells #[.int .i64 b, .int .i64 p, .int .i64 s] 23)) := (Below.refl _ w).alloc (Nat.le_refl _) _
  go_enter Try.func41, Try.ntmps41
  go_wp2
  all_goals go_ret
  all_goals refine ⟨?_, hB⟩
  all_goals first
    | exact congrArg (fun x => Ending.returned (Value.bool x)) (fit_wrap (by assumption) (by assumption) (by assumption) (by assumption) (by assumption) (by assumption))
    | exact congrArg (fun x => Ending.returned (Value.bool x)) (fit_no (by omega))
def gV (b p s : Int) : Value := .agg #[.int .i64 b, .int .i64 p, .int .i64 s]
/-- The document's New. -/
theorem rNew_any (b p s : Int) (A : Option Addr) (n c : Nat) (w : World) : Calls Try.prog 23 #[.agg #[.int .i64 b, .int .i64 p, .int .i64 s], .slice A n c] w fun e w' => e = .returned (.int .i64 (newE b p s n)) ∧ Below w.heap.size w w' := by
  obtain ⟨w1, hw1⟩ : ∃ x, x = w.alloc (.cells #[.int .i64 b, .int .i64 p, .int .i64 s] 23) := ⟨_, rfl⟩
  have hB : Below w.heap.size w w1 := by rw [hw1]; exact (Below.refl _ w).alloc (Nat.le_refl _) _
  have kg : Blk w1 w.heap.size 23 [.int .i64 b, .int .i64 p, .int .i64 s] := by rw [hw1]; exact Blk.new w _ [.int .i64 b, .int .i64 p, .int .i64 s]
  have hf := Fits_any b p s w1
  unfold newE
  cases hfg : fitG b p s with
  | false =>
    rw [hfg] at hf
    go_enter Try.func23, Try.ntmps23
    go_wp2_with fail
    rw [← hw1]
    with_reducible refine hf.mono ?_
    rintro e w2 ⟨rfl, b2⟩
    go_wp2
    go_ret
    exact ⟨by simp, hB.trans (b2.mono hB.size)⟩
  | true =>
    rw [hfg] at hf
    simp only [if_true]
    by_cases hn : (n : Int) = b
    · rw [if_pos hn]
      go_enter Try.func23, Try.ntmps23
      go_wp2_with fail
      rw [← hw1]
      with_reducible refine hf.mono ?_
      rintro e w2 ⟨rfl, b2⟩
      have hc : w2.cell? ⟨w.heap.size, 0, none⟩ = some (.int .i64 b) := by
        have k2 := kg.frm (ex := fun _ => False) (Frm.of_below b2) id
        rw [k2.cell]; rfl
      clear hw1
      go_wp2
      go_ret
      exact ⟨rfl, hB.trans (b2.mono hB.size)⟩
    · rw [if_neg hn]
      go_enter Try.func23, Try.ntmps23
      go_wp2_with fail
      rw [← hw1]
      with_reducible refine hf.mono ?_
      rintro e w2 ⟨rfl, b2⟩
      have hc : w2.cell? ⟨w.heap.size, 0, none⟩ = some (.int .i64 b) := by
        have k2 := kg.frm (ex := fun _ => False) (Frm.of_below b2) id
        rw [k2.cell]; rfl
      clear hw1
      go_wp2
      go_ret
      exact ⟨rfl, hB.trans (b2.mono hB.size)⟩
end Go.Proofs.Ytagfcndpblekkaa
