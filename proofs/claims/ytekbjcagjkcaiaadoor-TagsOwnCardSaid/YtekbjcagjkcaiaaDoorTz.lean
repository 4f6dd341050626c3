/- What is packed is read, what is read is packed as the same bytes: plain. -/
import Derived.Test.YtekbjcagjkcaiaaDoorTv
namespace Go.Proofs.YtekbjcagjkcaiaaDoor
open Go.RowKit
set_option linter.unusedVariables false
set_option linter.unusedSimpArgs false
theorem part_mid (a b c : List UInt8) (i k : Nat) (h1 : a.length = i) (h2 : b.length = k) : part (a ++ b ++ c) i k = b := by
  unfold part
  rw [List.append_assoc, ← h1, List.drop_left, ← h2, List.take_left]
theorem fld_mid (a c : List UInt8) (v i k : Nat) (h1 : a.length = i) (hv : v < 256 ^ k) : fld (a ++ leb v k ++ c) i k = v := by
  unfold fld
  rw [part_mid a (leb v k) c i k h1 (leb_len v k), le_leb k v hv]
theorem fld_pack (v0 v1 v2 v3 v4 v5 v6 v7 : Nat) (h : FitV v0 v1 v2 v3 v4 v5 v6 v7) : tagV (packB v0 v1 v2 v3 v4 v5 v6 v7) = .agg #[.int .i64 (v0 : Int), .int .i64 (v1 : Int), .int .u64 (v2 : Int), .int .u64 (v3 : Int), .int .i64 (v4 : Int), .int .i64 (v5 : Int), .int .i64 (v6 : Int), .int .i64 (v7 : Int)] := by
  obtain ⟨h0, h1, h2, h3, h4, h5, h6, h7⟩ := h
  have e0 : fld (packB v0 v1 v2 v3 v4 v5 v6 v7) 0 1 = v0 := by
    rw [show packB v0 v1 v2 v3 v4 v5 v6 v7 = [] ++ leb v0 1 ++ (leb v1 1 ++ leb v2 6 ++ leb v3 6 ++ leb v4 4 ++ leb v5 4 ++ leb v6 2 ++ leb v7 2) by unfold packB; simp only [List.nil_append, List.append_assoc]]
    exact fld_mid _ _ _ _ _ rfl h0
  have e1 : fld (packB v0 v1 v2 v3 v4 v5 v6 v7) 1 1 = v1 := by
    rw [show packB v0 v1 v2 v3 v4 v5 v6 v7 = leb v0 1 ++ leb v1 1 ++ (leb v2 6 ++ leb v3 6 ++ leb v4 4 ++ leb v5 4 ++ leb v6 2 ++ leb v7 2) by unfold packB; simp only [List.append_assoc]]
    exact fld_mid _ _ _ _ _ (by simp [leb_len]) h1
  have e2 : fld (packB v0 v1 v2 v3 v4 v5 v6 v7) 2 6 = v2 := by
    rw [show packB v0 v1 v2 v3 v4 v5 v6 v7 = (leb v0 1 ++ leb v1 1) ++ leb v2 6 ++ (leb v3 6 ++ leb v4 4 ++ leb v5 4 ++ leb v6 2 ++ leb v7 2) by unfold packB; simp only [List.append_assoc]]
    exact fld_mid _ _ _ _ _ (by simp [leb_len]) h2
  have e3 : fld (packB v0 v1 v2 v3 v4 v5 v6 v7) 8 6 = v3 := by
    rw [show packB v0 v1 v2 v3 v4 v5 v6 v7 = (leb v0 1 ++ leb v1 1 ++ leb v2 6) ++ leb v3 6 ++ (leb v4 4 ++ leb v5 4 ++ leb v6 2 ++ leb v7 2) by unfold packB; simp only [List.append_assoc]]
    exact fld_mid _ _ _ _ _ (by simp [leb_len]) h3
  have e4 : fld (packB v0 v1 v2 v3 v4 v5 v6 v7) 14 4 = v4 := by
    rw [show packB v0 v1 v2 v3 v4 v5 v6 v7 = (leb v0 1 ++ leb v1 1 ++ leb v2 6 ++ leb v3 6) ++ leb v4 4 ++ (leb v5 4 ++ leb v6 2 ++ leb v7 2) by unfold packB; simp only [List.append_assoc]]
    exact fld_mid _ _ _ _ _ (by simp [leb_len]) h4
  have e5 : fld (packB v0 v1 v2 v3 v4 v5 v6 v7) 18 4 = v5 := by
    rw [show packB v0 v1 v2 v3 v4 v5 v6 v7 = (leb v0 1 ++ leb v1 1 ++ leb v2 6 ++ leb v3 6 ++ leb v4 4) ++ leb v5 4 ++ (leb v6 2 ++ leb v7 2) by unfold packB; simp only [List.append_assoc]]
    exact fld_mid _ _ _ _ _ (by simp [leb_len]) h5
  have e6 : fld (packB v0 v1 v2 v3 v4 v5 v6 v7) 22 2 = v6 := by
    rw [show packB v0 v1 v2 v3 v4 v5 v6 v7 = (leb v0 1 ++ leb v1 1 ++ leb v2 6 ++ leb v3 6 ++ leb v4 4 ++ leb v5 4) ++ leb v6 2 ++ leb v7 2 by unfold packB; simp only [List.append_assoc]]
    exact fld_mid _ _ _ _ _ (by simp [leb_len]) h6
  have e7 : fld (packB v0 v1 v2 v3 v4 v5 v6 v7) 24 2 = v7 := by
    rw [show packB v0 v1 v2 v3 v4 v5 v6 v7 = (leb v0 1 ++ leb v1 1 ++ leb v2 6 ++ leb v3 6 ++ leb v4 4 ++ leb v5 4 ++ leb v6 2) ++ leb v7 2 ++ [] by unfold packB; simp only [List.append_assoc, List.append_nil]]
    exact fld_mid _ _ _ _ _ (by simp [leb_len]) h7
  unfold tagV
  rw [e0, e1, e2, e3, e4, e5, e6, e7]
theorem leb_cons (v n : Nat) : leb v (n + 1) = lowB v :: leb (v / 256) n := by
  unfold leb gen
  rw [List.range_succ_eq_map, List.map_cons, List.map_map]
  congr 1
  · simp
  · apply List.map_congr_left
    intro i _
    show lowB (v / 256 ^ (i + 1)) = lowB (v / 256 / 256 ^ i)
    rw [Nat.div_div_eq_div_mul, Nat.pow_succ, Nat.mul_comm]
theorem leb_le : ∀ l : List UInt8, leb (le l) l.length = l
  | [] => rfl
  | b :: r => by
    show leb (b.toNat + 256 * le r) (r.length + 1) = b :: r
    rw [leb_cons, show (b.toNat + 256 * le r) / 256 = le r by have := b.toNat_lt; omega, leb_le r]
    congr 1
    apply UInt8.toNat_inj.1
    rw [lowB_toNat]
    have := b.toNat_lt
    omega
theorem leb_fld (l : List UInt8) (i k : Nat) (h : i + k ≤ l.length) : leb (fld l i k) k = part l i k := by
  have h1 := leb_le (part l i k)
  rw [part_len l i k h] at h1
  exact h1
theorem part_add (l : List UInt8) (i k m : Nat) : part l i k ++ part l (i + k) m = part l i (k + m) := by
  unfold part
  rw [List.take_add, List.drop_drop]
theorem fit_fld (l : List UInt8) : FitV (fld l 0 1) (fld l 1 1) (fld l 2 6) (fld l 8 6) (fld l 14 4) (fld l 18 4) (fld l 22 2) (fld l 24 2) :=
  ⟨fld_lt l 0 1, fld_lt l 1 1, fld_lt l 2 6, fld_lt l 8 6, fld_lt l 14 4, fld_lt l 18 4, fld_lt l 22 2, fld_lt l 24 2⟩
/-- What is read is packed as the same bytes. -/
theorem pack_fld (l : List UInt8) (hl : l.length = 26) : packB (fld l 0 1) (fld l 1 1) (fld l 2 6) (fld l 8 6) (fld l 14 4) (fld l 18 4) (fld l 22 2) (fld l 24 2) = l := by
  unfold packB
  rw [leb_fld l 0 1 (by omega), leb_fld l 1 1 (by omega), leb_fld l 2 6 (by omega), leb_fld l 8 6 (by omega), leb_fld l 14 4 (by omega), leb_fld l 18 4 (by omega), leb_fld l 22 2 (by omega), leb_fld l 24 2 (by omega)]
  rw [part_add l 0 1 1, part_add l 0 2 6, part_add l 0 8 6, part_add l 0 14 4, part_add l 0 18 4, part_add l 0 22 2, part_add l 0 24 2]
  unfold part
  rw [List.drop_zero, List.take_of_length_le (by omega)]
end Go.Proofs.YtekbjcagjkcaiaaDoor
