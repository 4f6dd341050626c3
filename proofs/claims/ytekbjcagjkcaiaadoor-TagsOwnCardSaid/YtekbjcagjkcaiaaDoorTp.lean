/- The document's helpers of Pack: a number that fits, a number's bytes. -/
import Derived.Test.YtekbjcagjkcaiaaDoorTr
namespace Go.Proofs.YtekbjcagjkcaiaaDoor
open Go.RowKit
set_option linter.unusedVariables false
set_option linter.unusedSimpArgs false
theorem fits_yes (x y : Int) (h0 : 0 ≤ x) (h1 : x ≤ y) (w : World) : Calls Tryd.prog 31 #[.int .i64 x, .int .i64 y] w fun e w' => e = .returned (.bool true) ∧ w = w' := by
  go_enter Tryd.func31, Tryd.ntmps31
  go_wp2
  go_ret
  exact ⟨rfl, rfl⟩
theorem fits_not (x y : Int) (h : x < 0 ∨ y < x) (w : World) : Calls Tryd.prog 31 #[.int .i64 x, .int .i64 y] w fun e w' => e = .returned (.bool false) ∧ w = w' := by
  by_cases h0 : x < 0
  · have h1 : ¬ 0 ≤ x := by omega
    clear h
    go_enter Tryd.func31, Tryd.ntmps31
    go_wp2
    go_ret
    exact ⟨rfl, rfl⟩
  · have h1 : 0 ≤ x := by omega
    have h2 : ¬ x ≤ y := by omega
    clear h
    go_enter Tryd.func31, Tryd.ntmps31
    go_wp2
    go_ret
    exact ⟨rfl, rfl⟩
set_option maxRecDepth 100000 in
set_option maxHeartbeats 1600000 in
theorem low_any (v n : Nat) (hv : v < 18446744073709551616) (hn : n ≤ 8) (w : World) :
    Calls Tryd.prog 32 #[.int .u64 (v : Int), .int .i64 (n : Int)] w fun e w' => ∃ A c sp, e = .returned (.slice A n c) ∧ Owx w' 5 1 (.slice A n c) n (u8s (leb v n)) sp ∧ (∀ q, (Value.slice A n c).ownBlock = some q → w.heap.size ≤ q) ∧ Below w.heap.size w w' := by
  obtain ⟨B, hB⟩ : ∃ B, B = w.heap.size := ⟨_, rfl⟩
  obtain ⟨w1, sp1, hmk, ho1, hf1⟩ := own_makeg w 22 5 _ Tryd.underlying22 info5 n (n : Int) rfl (by omega)
  have hbl1 : Below B w w1 := by rw [hB]; exact hf1.below (Nat.le_refl _) (fun _ _ h => h)
  have hs1 := hf1.size
  rw [← hB] at hmk ho1 hs1
  have HB := Lib.hid hB
  clear hB hf1
  go_enter Tryd.func32, Tryd.ntmps32
  go_wp2
  go_loopw [0, 5, 6] (fun x s i wr => ∃ k : Nat, k ≤ n ∧ i = .int .i64 k ∧ x = .int .u64 ((v / 256 ^ k : Nat) : Int) ∧ (∃ sp, Owx wr 5 1 s k (u8s (leb v k)) sp) ∧ (∀ q, s.ownBlock = some q → B ≤ q) ∧ Below B w wr) (fun _ _ i _ => n - (intI i))
  case atStart => exact ⟨0, by omega, rfl, by simp, ⟨sp1, Owx.of_own ho1⟩, (by intro k hk; cases hk; exact Nat.le_refl _), hbl1⟩
  case round =>
    obtain ⟨k, hk, rfl, rfl, ⟨sp, ho⟩, hfr, hbl⟩ := hrel
    clear hmk ho1 hbl1 hs1
    by_cases hlt : k < n
    · have hsz : B ≤ wr.heap.size := by have := HB.out; rw [this] at hbl ⊢; exact hbl.size
      have hqv : v / 256 ^ k < 18446744073709551616 := Nat.lt_of_le_of_lt (Nat.div_le_self _ _) hv
      have hnx : v / 256 ^ k / 256 = v / 256 ^ (k + 1) := by rw [Nat.div_div_eq_div_mul, Nat.pow_succ]
      have hsc : leb v (k + 1) = leb v k ++ [lowB (v / 256 ^ k)] := gen_succ _ _
      have HN := Lib.hid hnx
      have HSC := Lib.hid hsc
      clear hnx hsc
      generalize v / 256 ^ k = q at *
      go_wp2_with (at_builtin; refine wpList_appx _ rfl (.tmp 14) (.tmp 17) 22 rfl 5 _ 1 1 Tryd.underlying22 info5 rfl (by decide) rfl (ho.alloc _) rfl rfl (rd_one _ _ _) (one_int _ _) (by unfold maxLen; omega) (by omega) ?_; intro v1 w3 sp3 ho3 hy3)
      have f1 := fresh_app (B := B) (by simp; omega) hfr hy3.at_
      have b1 : Below B w w3 := below_frm (hbl.alloc hsz _) (by simp; omega) hy3.frm (fun q hq => hfr q hq)
      clear ho hy3 hfr hbl
      go_wp2
      go_roundw
      case rel => exact ⟨k + 1, by omega, by go_num, by rw [← HN.out]; exact congrArg _ (by omega), ⟨sp3, by rw [HSC.out, u8s_append, show u8s [lowB q] = [Value.int .u8 ((q : Int) % 256)] from by rw [lowB_int]; rfl]; exact ho3⟩, f1, b1⟩
      case measure => simp [intI]; omega
    · obtain rfl : k = n := by omega
      go_wp2
      go_ret
      obtain ⟨A, c, rfl, _, _⟩ := ho.rd
      exact ⟨A, c, sp, rfl, ho, by rw [← HB.out]; exact hfr, by rw [← HB.out]; exact hbl⟩
end Go.Proofs.YtekbjcagjkcaiaaDoor
