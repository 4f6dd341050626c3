/- What is told of one pair of tags, fit or not. -/
import Derived.Test.YtekbjcagjkcaiaaDoorTba
namespace Go.Proofs.YtekbjcagjkcaiaaDoor
open Go.RowKit
set_option linter.unusedVariables false
set_option linter.unusedSimpArgs false
theorem own_both (x0 x1 x2 x3 x4 x5 x6 x7 : Int) (h0 : -9223372036854775808 ≤ x0 ∧ x0 ≤ 9223372036854775807) (h1 : -9223372036854775808 ≤ x1 ∧ x1 ≤ 9223372036854775807) (h2 : 0 ≤ x2 ∧ x2 ≤ 18446744073709551615) (h3 : 0 ≤ x3 ∧ x3 ≤ 18446744073709551615) (h4 : -9223372036854775808 ≤ x4 ∧ x4 ≤ 9223372036854775807) (h5 : -9223372036854775808 ≤ x5 ∧ x5 ≤ 9223372036854775807) (h6 : -9223372036854775808 ≤ x6 ∧ x6 ≤ 9223372036854775807) (h7 : -9223372036854775808 ≤ x7 ∧ x7 ≤ 9223372036854775807) : ∃ (m m2 : Nat) (er : Int) (LB LL : List UInt8), LB.length = m ∧ LL.length = m2 ∧ m ≤ 100 ∧ m2 ≤ 100 ∧
    (∀ w, LayT w → Calls Tryd.prog 20 #[.agg #[.int .i64 x0, .int .i64 x1, .int .u64 x2, .int .u64 x3, .int .i64 x4, .int .i64 x5, .int .i64 x6, .int .i64 x7]] w fun e w' => ∃ A c sp, e = .returned (.tuple #[.slice A m c, .int .i64 er]) ∧ Owx w' 5 1 (.slice A m c) m (u8s LB) sp ∧ (∀ q, (Value.slice A m c).ownBlock = some q → w.heap.size ≤ q) ∧ Below w.heap.size w w') ∧
    (∀ w, LayT w → SpT w → Calls Tryd.prog 21 #[.agg #[.int .i64 x0, .int .i64 x1, .int .u64 x2, .int .u64 x3, .int .i64 x4, .int .i64 x5, .int .i64 x6, .int .i64 x7]] w fun e w' => ∃ A c sp, e = .returned (.tuple #[.slice A m2 c, .int .i64 er]) ∧ Owx w' 5 1 (.slice A m2 c) m2 (u8s LL) sp ∧ (∀ q, (Value.slice A m2 c).ownBlock = some q → w.heap.size ≤ q) ∧ Below w.heap.size w w') ∧
    (¬ er = 0 ∨ (er = 0 ∧ m = 26 ∧ m2 = 54 ∧
      (∀ A c w, Rd w A (u8s LB) → LayT w → Calls Tryd.prog 12 #[.slice A 26 c] w fun e w' => e = .returned (.tuple #[.agg #[.int .i64 x0, .int .i64 x1, .int .u64 x2, .int .u64 x3, .int .i64 x4, .int .i64 x5, .int .i64 x6, .int .i64 x7], .int .i64 0]) ∧ Below w.heap.size w w') ∧
      (∀ A c w, Rd w A (u8s LL) → LayT w → Calls Tryd.prog 17 #[.slice A 54 c] w fun e w' => e = .returned (.tuple #[.agg #[.int .i64 x0, .int .i64 x1, .int .u64 x2, .int .u64 x3, .int .i64 x4, .int .i64 x5, .int .i64 x6, .int .i64 x7], .int .i64 (-1), .int .i64 0]) ∧ Below w.heap.size w w'))) := by
  by_cases hf : FitI x0 x1 x2 x3 x4 x5 x6 x7
  · obtain ⟨LB, l1, l2, pk, ly, rr, lf⟩ := back_fit x0 x1 x2 x3 x4 x5 x6 x7 hf
    exact ⟨26, 54, 0, LB, layB LB, l1, l2, by decide, by decide, pk, ly, .inr ⟨rfl, rfl, rfl, rr, fun A c w hr hL => lf A c w (layB LB) (-1) l2 (read_lay LB (by omega)) hr hL⟩⟩
  · obtain ⟨pk, ly⟩ := back_unfit x0 x1 x2 x3 x4 x5 x6 x7 h0 h1 h2 h3 h4 h5 h6 h7 hf
    exact ⟨0, 0, 61, [], [], rfl, rfl, by decide, by decide, fun w hL => (pk w hL).mono fun e w' ⟨h1, h2⟩ => ⟨none, 0, [], h1, .inl ⟨rfl, rfl, rfl, rfl⟩, fun q hq => (by cases hq), h2⟩, fun w hL hS => (ly w hL hS).mono fun e w' ⟨h1, h2⟩ => ⟨none, 0, [], h1, .inl ⟨rfl, rfl, rfl, rfl⟩, fun q hq => (by cases hq), h2⟩, .inl (by decide)⟩
end Go.Proofs.YtekbjcagjkcaiaaDoor
