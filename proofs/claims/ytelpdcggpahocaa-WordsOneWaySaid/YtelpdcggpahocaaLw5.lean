/- The law WordsOneWay: its walk. -/
import Derived.Test.YtelpdcggpahocaaLw2
import Derived.Test.YtelpdcggpahocaaWay
namespace Go.Proofs.Ytelpdcggpahocaa
open Go.RowKit
set_option linter.unusedVariables false
set_option linter.unusedSimpArgs false
theorem Rd.take5 {w : World} {A : Option Addr} {k : Nat} {l : List UInt8} (h : Rd w A (u8s l)) : Rd w A (u8s (l.take k)) := by
  intro hne
  have hne' : u8s l ≠ [] := by
    intro e
    have : l = [] := by simpa [u8s] using e
    rw [this] at hne
    simp [u8s] at hne
  obtain ⟨ad, e, hc⟩ := h hne'
  refine ⟨ad, e, fun j u hj => hc j u ?_⟩
  simp only [u8s, List.getElem?_map, List.getElem?_take] at hj ⊢
  split at hj
  · exact hj
  · simp at hj
set_option maxHeartbeats 1600000 in
theorem ones_any (n : Nat) (w : World) (hm : n ≤ 140737488355328) :
    Calls Try.prog 34 #[.int .i64 (n : Int)] w fun e w' => ∃ v, e = .returned v ∧ NewB w w' v (onesL n) := by
  obtain ⟨B, hB⟩ : ∃ B, B = w.heap.size := ⟨_, rfl⟩
  have HB := Lib.hid hB
  clear hB
  have h0 : Own w 5 1 (.slice none 0 0) 0 [] [] := .inl ⟨rfl, rfl, rfl, rfl⟩
  go_enter Try.func34, Try.ntmps34
  go_wp2
  go_loopw [3, 4] (fun v i wr => ∃ k : Nat, k ≤ n ∧ i = .int .i64 k ∧ (∃ sp, Own wr 5 1 v k (u8s (onesL k)) sp) ∧ (∀ q, v.ownBlock = some q → B ≤ q) ∧ Below B w wr) (fun _ i _ => n - (intOf i).toNat)
  case atStart =>
    have := HB.out
    exact ⟨0, by omega, rfl, ⟨[], h0⟩, (by intro q hq; cases hq), by rw [this]; exact Below.refl _ w⟩
  case round =>
    obtain ⟨k, hk, rfl, ⟨sp, ho⟩, hfr, hbl⟩ := hrel
    by_cases hlt : k < n
    · have hsz : B ≤ wr.heap.size := by rw [HB.out]; rw [HB.out] at hbl; exact hbl.size
      go_wp2_with (at_builtin; refine wpList_app _ rfl (.tmp 10) (.tmp 11) 22 rfl 5 _ 1 1 Try.underlying22 info5 rfl (by decide) rfl (ho.alloc _) rfl rfl (rd_one _ _ _) (one_int _ _) (by unfold maxLen; omega) (by omega) ?_; intro v1 w1 sp1 ho2 hy1)
      all_goals
        have f1 := fresh_app (B := B) (by simp; omega) hfr hy1.at_
        have b1 : Below B w w1 := below_frm (hbl.alloc hsz _) (by simp; omega) hy1.frm (fun q hq => hfr q hq)
        clear ho hy1 hfr hbl
        go_roundw
        case rel => exact ⟨k + 1, by omega, by go_num, ⟨sp1, by rw [onesL_succ, u8s_append]; exact ho2⟩, f1, b1⟩
        case measure => simp [intOf]; omega
    · obtain rfl : k = n := by omega
      go_wp2
      go_ret
      have hb := HB.out
      subst hb
      exact ⟨_, rfl, sp, by rw [onesL_len]; exact ho, hfr, hbl⟩
end Go.Proofs.Ytelpdcggpahocaa
