/- The walk of Join. -/
import Derived.Test.YtelpdcggpahocaaW5
namespace Go.Proofs.Ytelpdcggpahocaa
open Go.RowKit
set_option linter.unusedVariables false
set_option linter.unusedSimpArgs false
/-- The first k texts, one behind the other. -/
def cat (tx : Nat → List UInt8) : Nat → List UInt8
  | 0 => []
  | k + 1 => cat tx k ++ tx k
set_option maxHeartbeats 1600000 in
theorem join_any (ad : Nat → Option Addr) (cp : Nat → Nat) (tx : Nat → List UInt8) (A : Option Addr) (gl m cap : Nat) (w : World) (hA : 0 < m → A = some ⟨gl, 0, none⟩) (hm : m ≤ 100)
    (hc : ∀ i, i < m → w.cell? ⟨gl, i, none⟩ = some (.slice (ad i) (tx i).length (cp i))) (hg : 0 < m → gl < w.heap.size) (hr : ∀ i, i < m → Rd w (ad i) (u8s (tx i))) (hs : ∀ i, i ≤ m → (cat tx i).length ≤ 1000000000) :
    Calls Try.prog 12 #[.slice A m cap] w fun e w' => ∃ v, e = .returned v ∧ NewB w w' v (cat tx m) := by
  obtain ⟨B, hB⟩ : ∃ B, B = w.heap.size := ⟨_, rfl⟩
  have HB := Lib.hid hB
  have HC := Lib.hid hc
  have HA := Lib.hid hA
  clear hB hc hA
  have h0 : Own (w.alloc (.cells #[] 5)) 5 1 (.slice (some ⟨w.heap.size, 0, none⟩) 0 0) 0 [] [] := Own.new w 5 1 0 [] rfl (Nat.zero_le _)
  go_enter Try.func12, Try.ntmps12
  go_wp2
  go_loopw [3, 9] (fun v i wr => ∃ k : Nat, k ≤ m ∧ i = .int .i64 k ∧ (∃ sp, Own wr 5 1 v (cat tx k).length (u8s (cat tx k)) sp) ∧ (∀ q, v.ownBlock = some q → B ≤ q) ∧ Below B w wr) (fun _ i _ => m - (intOf i).toNat)
  case atStart =>
    have := HB.out
    exact ⟨0, by omega, rfl, ⟨[], h0⟩, by intro q hq; cases hq; show B ≤ w.heap.size; omega, by rw [this]; exact (Below.refl _ w).alloc (Nat.le_refl _) _⟩
  case round =>
    obtain ⟨k, hk, rfl, ⟨sp, ho⟩, hfr, hbl⟩ := hrel
    by_cases hlt : k < m
    · have hbW : Below w.heap.size w wr := by rw [← HB.out]; exact hbl
      have hcell : wr.cell? ⟨gl, k, none⟩ = some (.slice (ad k) (tx k).length (cp k)) := by
        rw [World.cell?_of_block (w := w) (hbW.block gl (hg (by omega)))]; exact HC.out k hlt
      obtain rfl := HA.out (by omega)
      have hrk : Rd wr (ad k) (u8s (tx k)) := (hr k hlt).below hbW
      have hsz : B ≤ wr.heap.size := by rw [HB.out]; exact hbW.size
      have hs1 : (cat tx k).length + (tx k).length ≤ 1000000000 := by have := hs (k + 1) (by omega); simpa [cat] using this
      clear hbW
      go_wp2_with (at_builtin; refine wpList_app _ rfl (.tmp 13) (.tmp 14) 22 rfl 5 _ 1 1 Try.underlying22 info5 rfl (by decide) rfl ho rfl (by rw [u8s_length]; exact (Nat.mul_one _).symm) hrk (one_u8s (tx k)) (by unfold maxLen; omega) (by omega) ?_; intro v1 w1 sp1 ho2 hy1)
      have f1 := fresh_app (B := B) hsz hfr hy1.at_
      have b1 : Below B w w1 := below_frm hbl hsz hy1.frm (fun q hq => hfr q hq)
      clear ho hy1 hfr hbl
      go_roundw
      case rel => exact ⟨k + 1, by omega, by go_num, ⟨sp1, by rw [show cat tx (k + 1) = cat tx k ++ tx k from rfl, List.length_append, u8s_append]; exact ho2⟩, f1, b1⟩
      case measure => simp [intOf]; omega
    · obtain rfl : k = m := by omega
      go_wp2
      go_ret
      have hb := HB.out
      subst hb
      exact ⟨_, rfl, sp, ho, hfr, hbl⟩
end Go.Proofs.Ytelpdcggpahocaa
