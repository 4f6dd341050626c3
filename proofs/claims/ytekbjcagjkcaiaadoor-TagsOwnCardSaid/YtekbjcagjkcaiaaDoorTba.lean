/- What Pack, Lay, Read and Lift tell of tags that fit, of tags that do not, and of bytes. -/
import Derived.Test.YtekbjcagjkcaiaaDoorTi
import Derived.Test.YtekbjcagjkcaiaaDoorTza
namespace Go.Proofs.YtekbjcagjkcaiaaDoor
open Go.RowKit
set_option linter.unusedVariables false
set_option linter.unusedSimpArgs false
theorem same_v2 (v0 v1 v2 v3 v4 v5 v6 v7 u0 u1 u2 u3 u4 u5 u6 u7 : Nat) (h : (v0 : Int) = u0 ∧ (v1 : Int) = u1 ∧ (v2 : Int) = u2 ∧ (v3 : Int) = u3 ∧ (v4 : Int) = u4 ∧ (v5 : Int) = u5 ∧ (v6 : Int) = u6 ∧ (v7 : Int) = u7) : u0 = v0 ∧ u1 = v1 ∧ u2 = v2 ∧ u3 = v3 ∧ u4 = v4 ∧ u5 = v5 ∧ u6 = v6 ∧ u7 = v7 := by omega
theorem back_fit (x0 x1 x2 x3 x4 x5 x6 x7 : Int) (hf : FitI x0 x1 x2 x3 x4 x5 x6 x7) : ∃ LB : List UInt8, LB.length = 26 ∧ (layB LB).length = 54 ∧
    (∀ w, LayT w → Calls Tryd.prog 20 #[.agg #[.int .i64 x0, .int .i64 x1, .int .u64 x2, .int .u64 x3, .int .i64 x4, .int .i64 x5, .int .i64 x6, .int .i64 x7]] w fun e w' => ∃ A c sp, e = .returned (.tuple #[.slice A 26 c, .int .i64 0]) ∧ Owx w' 5 1 (.slice A 26 c) 26 (u8s LB) sp ∧ (∀ q, (Value.slice A 26 c).ownBlock = some q → w.heap.size ≤ q) ∧ Below w.heap.size w w') ∧
    (∀ w, LayT w → SpT w → Calls Tryd.prog 21 #[.agg #[.int .i64 x0, .int .i64 x1, .int .u64 x2, .int .u64 x3, .int .i64 x4, .int .i64 x5, .int .i64 x6, .int .i64 x7]] w fun e w' => ∃ A c sp, e = .returned (.tuple #[.slice A 54 c, .int .i64 0]) ∧ Owx w' 5 1 (.slice A 54 c) 54 (u8s (layB LB)) sp ∧ (∀ q, (Value.slice A 54 c).ownBlock = some q → w.heap.size ≤ q) ∧ Below w.heap.size w w') ∧
    (∀ A c w, Rd w A (u8s LB) → LayT w → Calls Tryd.prog 12 #[.slice A 26 c] w fun e w' => e = .returned (.tuple #[.agg #[.int .i64 x0, .int .i64 x1, .int .u64 x2, .int .u64 x3, .int .i64 x4, .int .i64 x5, .int .i64 x6, .int .i64 x7], .int .i64 0]) ∧ Below w.heap.size w w') ∧
    (∀ A c w l t, l.length = 54 → readR l = (LB, t, 0) → Rd w A (u8s l) → LayT w → Calls Tryd.prog 17 #[.slice A 54 c] w fun e w' => e = .returned (.tuple #[.agg #[.int .i64 x0, .int .i64 x1, .int .u64 x2, .int .u64 x3, .int .i64 x4, .int .i64 x5, .int .i64 x6, .int .i64 x7], .int .i64 t, .int .i64 0]) ∧ Below w.heap.size w w') := by
  have hf2 := hf
  unfold FitI at hf2
  obtain ⟨v0, rfl⟩ : ∃ v : Nat, x0 = v := ⟨x0.toNat, by omega⟩
  obtain ⟨v1, rfl⟩ : ∃ v : Nat, x1 = v := ⟨x1.toNat, by omega⟩
  obtain ⟨v2, rfl⟩ : ∃ v : Nat, x2 = v := ⟨x2.toNat, by omega⟩
  obtain ⟨v3, rfl⟩ : ∃ v : Nat, x3 = v := ⟨x3.toNat, by omega⟩
  obtain ⟨v4, rfl⟩ : ∃ v : Nat, x4 = v := ⟨x4.toNat, by omega⟩
  obtain ⟨v5, rfl⟩ : ∃ v : Nat, x5 = v := ⟨x5.toNat, by omega⟩
  obtain ⟨v6, rfl⟩ : ∃ v : Nat, x6 = v := ⟨x6.toNat, by omega⟩
  obtain ⟨v7, rfl⟩ : ∃ v : Nat, x7 = v := ⟨x7.toNat, by omega⟩
  have hV : FitV v0 v1 v2 v3 v4 v5 v6 v7 := by unfold FitV; omega
  have hlen := packB_len v0 v1 v2 v3 v4 v5 v6 v7
  refine ⟨packB v0 v1 v2 v3 v4 v5 v6 v7, hlen, packL v0 v1 v2 v3 v4 v5 v6 v7, fun w hL => ?_, fun w hL hS => ?_, fun A c w hr hL => ?_, fun A c w l t hl hR hr hL => ?_⟩
  · refine (Pack_any v0 v1 v2 v3 v4 v5 v6 v7 (by omega) (by omega) (by omega) (by omega) (by omega) (by omega) (by omega) (by omega) w hL).mono fun e w' h => ?_
    rcases h with ⟨u0, u1, u2, u3, u4, u5, u6, u7, heq, _, A, c, sp, k1, k2, k3, k4⟩ | ⟨h, _⟩
    · obtain ⟨rfl, rfl, rfl, rfl, rfl, rfl, rfl, rfl⟩ := same_v2 v0 v1 v2 v3 v4 v5 v6 v7 u0 u1 u2 u3 u4 u5 u6 u7 heq
      exact ⟨A, c, sp, k1, k2, k3, k4⟩
    · exact absurd hf h
  · refine (tLay_any v0 v1 v2 v3 v4 v5 v6 v7 (by omega) (by omega) (by omega) (by omega) (by omega) (by omega) (by omega) (by omega) w hL hS).mono fun e w' h => ?_
    rcases h with ⟨u0, u1, u2, u3, u4, u5, u6, u7, heq, _, A, c, sp, k1, k2, k3, k4⟩ | ⟨h, _⟩
    · obtain ⟨rfl, rfl, rfl, rfl, rfl, rfl, rfl, rfl⟩ := same_v2 v0 v1 v2 v3 v4 v5 v6 v7 u0 u1 u2 u3 u4 u5 u6 u7 heq
      exact ⟨A, c, sp, k1, k2, k3, k4⟩
    · exact absurd hf h
  · have h := Read_ok A 26 c _ w hlen rfl hr hL
    rw [fld_pack v0 v1 v2 v3 v4 v5 v6 v7 hV] at h
    exact h
  · refine Lift_ok A 54 c 26 l _ t v0 v1 v2 v3 v4 v5 v6 v7 0 w hl rfl hr hR hlen hL ?_
    intro A' c' w' hr' hL'
    have h := Read_ok A' 26 c' _ w' hlen rfl hr' hL'
    rw [fld_pack v0 v1 v2 v3 v4 v5 v6 v7 hV] at h
    exact h
theorem back_unfit (x0 x1 x2 x3 x4 x5 x6 x7 : Int) (h0 : -9223372036854775808 ≤ x0 ∧ x0 ≤ 9223372036854775807) (h1 : -9223372036854775808 ≤ x1 ∧ x1 ≤ 9223372036854775807) (h2 : 0 ≤ x2 ∧ x2 ≤ 18446744073709551615) (h3 : 0 ≤ x3 ∧ x3 ≤ 18446744073709551615) (h4 : -9223372036854775808 ≤ x4 ∧ x4 ≤ 9223372036854775807) (h5 : -9223372036854775808 ≤ x5 ∧ x5 ≤ 9223372036854775807) (h6 : -9223372036854775808 ≤ x6 ∧ x6 ≤ 9223372036854775807) (h7 : -9223372036854775808 ≤ x7 ∧ x7 ≤ 9223372036854775807) (hf : ¬ FitI x0 x1 x2 x3 x4 x5 x6 x7) :
    (∀ w, LayT w → Calls Tryd.prog 20 #[.agg #[.int .i64 x0, .int .i64 x1, .int .u64 x2, .int .u64 x3, .int .i64 x4, .int .i64 x5, .int .i64 x6, .int .i64 x7]] w fun e w' => e = .returned (.tuple #[.slice none 0 0, .int .i64 61]) ∧ Below w.heap.size w w') ∧
    (∀ w, LayT w → SpT w → Calls Tryd.prog 21 #[.agg #[.int .i64 x0, .int .i64 x1, .int .u64 x2, .int .u64 x3, .int .i64 x4, .int .i64 x5, .int .i64 x6, .int .i64 x7]] w fun e w' => e = .returned (.tuple #[.slice none 0 0, .int .i64 61]) ∧ Below w.heap.size w w') := by
  have hbad : ∀ v0 v1 v2 v3 v4 v5 v6 v7 : Nat, (x0 = v0 ∧ x1 = v1 ∧ x2 = v2 ∧ x3 = v3 ∧ x4 = v4 ∧ x5 = v5 ∧ x6 = v6 ∧ x7 = v7) → FitV v0 v1 v2 v3 v4 v5 v6 v7 → False := fun v0 v1 v2 v3 v4 v5 v6 v7 h1 h2 => hf (by unfold FitV at h2; unfold FitI; omega)
  refine ⟨fun w hL => ?_, fun w hL hS => ?_⟩
  · refine (Pack_any x0 x1 x2 x3 x4 x5 x6 x7 h0 h1 h2 h3 h4 h5 h6 h7 w hL).mono fun e w' h => ?_
    rcases h with ⟨v0, v1, v2, v3, v4, v5, v6, v7, heq, hv, _⟩ | ⟨_, h1, h2⟩
    · exact (hbad v0 v1 v2 v3 v4 v5 v6 v7 heq hv).elim
    · exact ⟨h1, h2⟩
  · refine (tLay_any x0 x1 x2 x3 x4 x5 x6 x7 h0 h1 h2 h3 h4 h5 h6 h7 w hL hS).mono fun e w' h => ?_
    rcases h with ⟨v0, v1, v2, v3, v4, v5, v6, v7, heq, hv, _⟩ | ⟨_, h1, h2⟩
    · exact (hbad v0 v1 v2 v3 v4 v5 v6 v7 heq hv).elim
    · exact ⟨h1, h2⟩
/-- Bytes are read as tags that are packed as the same bytes. -/
theorem back_bytes (l : List UInt8) (hl : l.length = 26) : ∃ x0 x1 x2 x3 x4 x5 x6 x7 : Int,
    (∀ A c w, Rd w A (u8s l) → LayT w → Calls Tryd.prog 12 #[.slice A 26 c] w fun e w' => e = .returned (.tuple #[.agg #[.int .i64 x0, .int .i64 x1, .int .u64 x2, .int .u64 x3, .int .i64 x4, .int .i64 x5, .int .i64 x6, .int .i64 x7], .int .i64 0]) ∧ Below w.heap.size w w') ∧
    (∀ w, LayT w → Calls Tryd.prog 20 #[.agg #[.int .i64 x0, .int .i64 x1, .int .u64 x2, .int .u64 x3, .int .i64 x4, .int .i64 x5, .int .i64 x6, .int .i64 x7]] w fun e w' => ∃ A c sp, e = .returned (.tuple #[.slice A 26 c, .int .i64 0]) ∧ Owx w' 5 1 (.slice A 26 c) 26 (u8s l) sp ∧ Below w.heap.size w w') := by
  refine ⟨((fld l 0 1 : Nat) : Int), ((fld l 1 1 : Nat) : Int), ((fld l 2 6 : Nat) : Int), ((fld l 8 6 : Nat) : Int), ((fld l 14 4 : Nat) : Int), ((fld l 18 4 : Nat) : Int), ((fld l 22 2 : Nat) : Int), ((fld l 24 2 : Nat) : Int), fun A c w hr hL => Read_ok A 26 c l w hl rfl hr hL, fun w hL => ?_⟩
  have hV := fit_fld l
  have h3 := pack_fld l hl
  generalize fld l 0 1 = v0 at *
  generalize fld l 1 1 = v1 at *
  generalize fld l 2 6 = v2 at *
  generalize fld l 8 6 = v3 at *
  generalize fld l 14 4 = v4 at *
  generalize fld l 18 4 = v5 at *
  generalize fld l 22 2 = v6 at *
  generalize fld l 24 2 = v7 at *
  have hV2 := hV
  unfold FitV at hV2
  refine (Pack_any v0 v1 v2 v3 v4 v5 v6 v7 (by omega) (by omega) (by omega) (by omega) (by omega) (by omega) (by omega) (by omega) w hL).mono fun e w' h => ?_
  rcases h with ⟨u0, u1, u2, u3, u4, u5, u6, u7, heq, _, A, c, sp, k1, k2, k3, k4⟩ | ⟨h, _⟩
  · obtain ⟨rfl, rfl, rfl, rfl, rfl, rfl, rfl, rfl⟩ := same_v2 v0 v1 v2 v3 v4 v5 v6 v7 u0 u1 u2 u3 u4 u5 u6 u7 heq
    rw [h3] at k2
    exact ⟨A, c, sp, k1, k2, k4⟩
  · exact absurd (by unfold FitI; omega) h
end Go.Proofs.YtekbjcagjkcaiaaDoor
