/- Walks of judge: New where it refuses, least. -/
import Derived.Test.YtagfcndpblekkaaJr
import Derived.BigQuiet
namespace Go.Proofs.Ytagfcndpblekkaa
open Go.RowKit Go.Maps
set_option linter.unusedVariables false
set_option linter.unusedSimpArgs false
set_option maxRecDepth 100000 in
set_option maxHeartbeats 3200000 in
theorem New_no (b p s : Int) (A : Option Addr) (n c : Nat) (clean : Bool) (w : World) (h0 : newE b p s n ≠ 0) :
    Calls Try.prog 24 #[.agg #[.int .i64 b, .int .i64 p, .int .i64 s], .slice A n c, .bool clean] w fun e w' => e = .returned (.tuple #[.pointer none, .int .i64 (newE b p s n)]) ∧ Below w.heap.size w w' := by
  obtain ⟨w1, hw1⟩ : ∃ x, x = w.alloc (.cells #[.int .i64 b, .int .i64 p, .int .i64 s] 23) := ⟨_, rfl⟩
  have hB : Below w.heap.size w w1 := by rw [hw1]; exact (Below.refl _ w).alloc (Nat.le_refl _) _
  have kg : Blk w1 w.heap.size 23 [.int .i64 b, .int .i64 p, .int .i64 s] := by rw [hw1]; exact Blk.new w _ [.int .i64 b, .int .i64 p, .int .i64 s]
  have hfc := fits_any b p s w1
  unfold newE at h0 ⊢
  cases hfg : fitG b p s with
  | false =>
    rw [hfg] at hfc
    go_enter Try.func24, Try.ntmps24
    go_wp2_with fail
    rw [← hw1]
    with_reducible refine hfc.mono ?_
    rintro e w2 ⟨rfl, b2⟩
    go_wp2
    go_ret2
    exact ⟨by simp, hB.trans (b2.mono hB.size)⟩
  | true =>
    rw [hfg] at hfc h0
    simp only [if_true] at h0 ⊢
    by_cases hn : (n : Int) = b
    · rw [if_pos hn] at h0; exact absurd rfl h0
    · rw [if_neg hn]
      clear h0
      go_enter Try.func24, Try.ntmps24
      go_wp2_with fail
      rw [← hw1]
      with_reducible refine hfc.mono ?_
      rintro e w2 ⟨rfl, b2⟩
      have hc : w2.cell? ⟨w.heap.size, 0, none⟩ = some (.int .i64 b) := by
        have k2 := kg.frm (ex := fun _ => False) (Frm.of_below b2) id
        rw [k2.cell]; rfl
      clear hw1
      go_wp2
      go_ret2
      exact ⟨rfl, hB.trans (b2.mono hB.size)⟩
set_option maxRecDepth 100000 in
set_option maxHeartbeats 3200000 in
theorem least_any (a : JA) (Bn : Nat) (b p s : Int) (J : JS) (n k : Nat) (w : World) (h : JP w a Bn b p s J n) (hk : k < Bn) (hf : J.fl.length = Bn) (ht : J.tp.length = Bn) :
    Calls Try.prog 38 #[.pointer (some ⟨a.q, 0, none⟩), .int .i64 (k : Int)] w fun e w' => e = .returned (.int .i64 (lsP J (k : Int))) ∧ ∃ m, w' = w.drewN m := by
  obtain ⟨c0, c1, c3, c4, c5, c6, c7⟩ := cellsJ h
  have d1 : w.cell? ⟨a.ff, k, none⟩ = some (.int .i64 (J.fl.getD k 0)) := by rw [h.fl.cell]; exact iv_at _ _ (by omega)
  have d2 : w.cell? ⟨a.tt, k, none⟩ = some (.int .i64 (J.tp.getD k 0)) := by rw [h.tp.cell]; exact iv_at _ _ (by omega)
  have hki : (k : Int) < (Bn : Int) := by omega
  have hls : lsP J (k : Int) = if J.fl.getD k 0 ≤ J.tp.getD k 0 then J.tp.getD k 0 else J.fl.getD k 0 := by unfold lsP at0; rw [Int.toNat_natCast]
  rw [hls]
  generalize J.fl.getD k 0 = x at *
  generalize J.tp.getD k 0 = y at *
  clear h hf ht hls
  go_enter Try.func38, Try.ntmps38
  go_wp2
  go_quiet (fail)
  all_goals go_wp2
  all_goals go_ret
  all_goals exact ⟨congrArg (fun z => Ending.returned (Value.int .i64 z)) (by first | omega | (split <;> omega)), _, rfl⟩
end Go.Proofs.Ytagfcndpblekkaa
