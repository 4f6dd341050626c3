/- The walk of heads. -/
import Derived.Test.YthmdfobkdaocaaaDoorRt
namespace Go.Proofs.YthmdfobkdaocaaaDoor
open Go.RowKit
set_option linter.unusedVariables false
set_option linter.unusedSimpArgs false
theorem head1 : layR [165] = ([153, 102, 153, 102], 0) := by decide +kernel
theorem head2 : readR [169, 170, 169, 138] = ([1], 14, 0) := by decide +kernel
theorem head3 : readR [255, 255] = ([], 0, 30) := by decide +kernel
theorem head4 : readR [170] = ([], 0, 31) := by decide +kernel
theorem RdP.open {R : List UInt8 × Int × Int} {w w' : World} {e : Ending} (h : RdP R w e w') : ∃ A c sp, e = .returned (.tuple #[.slice A R.1.length c, .int .i64 R.2.1, .int .i64 R.2.2]) ∧ Owx w' 5 1 (.slice A R.1.length c) R.1.length (u8s R.1) sp ∧ (∀ q, (Value.slice A R.1.length c).ownBlock = some q → w.heap.size ≤ q) ∧ Rd w' A (u8s R.1) ∧ Below w.heap.size w w' := by
  obtain ⟨v, sp, h1, h2, h3, h4⟩ := h
  obtain ⟨A, c, rfl, _, hr⟩ := h2.rd
  exact ⟨A, c, sp, h1, h2, h3, hr, h4⟩
set_option maxRecDepth 100000 in
set_option maxHeartbeats 6400000 in
theorem heads_any (w : World) (hT : SpT w) :
    Calls Tryd.prog 17 #[] w fun e w' => e = .returned (.bool true) ∧ Below w.heap.size w w' := by
  have HT := Lib.hid hT
  have hT0 := hT.pos
  clear hT
  have hL : ∀ (wx : World) (A : Option Addr) (c : Nat), Rd wx A [.int .u8 165] → SpT wx → Calls Tryd.prog 11 #[.slice A 1 c] wx fun e w' => ∃ v sp, e = .returned (.tuple #[v, .int .i64 0]) ∧ Owx w' 5 1 v 4 [.int .u8 153, .int .u8 102, .int .u8 153, .int .u8 102] sp ∧ (∀ q, v.ownBlock = some q → wx.heap.size ≤ q) ∧ Below wx.heap.size wx w' := fun wx A c hr hT => by
    have h := Lay_any A 1 c [165] wx rfl hr (by decide) hT
    rw [head1] at h
    exact h
  have hR2 : ∀ (wx : World) (A : Option Addr) (c : Nat), Rd wx A [.int .u8 169, .int .u8 170, .int .u8 169, .int .u8 138] → Calls Tryd.prog 18 #[.slice A 4 c] wx fun e w' => ∃ v sp, e = .returned (.tuple #[v, .int .i64 14, .int .i64 0]) ∧ Owx w' 5 1 v 1 [.int .u8 1] sp ∧ (∀ q, v.ownBlock = some q → wx.heap.size ≤ q) ∧ Below wx.heap.size wx w' := fun wx A c hr => by
    have h := Read_any A 4 c [169, 170, 169, 138] wx rfl hr (by decide)
    rw [head2] at h
    exact h
  have hR3 : ∀ (wx : World) (A : Option Addr) (c : Nat), Rd wx A [.int .u8 255, .int .u8 255] → Calls Tryd.prog 18 #[.slice A 2 c] wx fun e w' => ∃ v, e = .returned (.tuple #[v, .int .i64 0, .int .i64 30]) ∧ Below wx.heap.size wx w' := fun wx A c hr => by
    have h := Read_any A 2 c [255, 255] wx rfl hr (by decide)
    rw [head3] at h
    exact h.mono fun e w' ⟨v, sp, h1, _, _, h2⟩ => ⟨v, h1, h2⟩
  have hR4 : ∀ (wx : World) (A : Option Addr) (c : Nat), Rd wx A [.int .u8 170] → Calls Tryd.prog 18 #[.slice A 1 c] wx fun e w' => ∃ v, e = .returned (.tuple #[v, .int .i64 0, .int .i64 31]) ∧ Below wx.heap.size wx w' := fun wx A c hr => by
    have h := Read_any A 1 c [170] wx rfl hr (by decide)
    rw [head4] at h
    exact h.mono fun e w' ⟨v, sp, h1, _, _, h2⟩ => ⟨v, h1, h2⟩
  have hS4 : ∀ (wx : World) (A A' : Option Addr) (c c' : Nat), Rd wx A [.int .u8 153, .int .u8 102, .int .u8 153, .int .u8 102] → Rd wx A' [.int .u8 153, .int .u8 102, .int .u8 153, .int .u8 102] → Calls Tryd.prog 15 #[.slice A 4 c, .slice A' 4 c'] wx fun e w' => e = .returned (.bool true) ∧ ∃ m, w' = wx.drewN m := fun wx A A' c c' h1 h2 => same_true A A' 4 c c' [153, 102, 153, 102] wx rfl h1 h2 (by decide)
  have hS1 : ∀ (wx : World) (A A' : Option Addr) (c c' : Nat), Rd wx A [.int .u8 1] → Rd wx A' [.int .u8 1] → Calls Tryd.prog 15 #[.slice A 1 c, .slice A' 1 c'] wx fun e w' => e = .returned (.bool true) ∧ ∃ m, w' = wx.drewN m := fun wx A A' c c' h1 h2 => same_true A A' 1 c c' [1] wx rfl h1 h2 (by decide)
  go_enter Tryd.func17, Tryd.ntmps17
  go_wp2_with fail
  have b0 := (Below.refl w.heap.size w).alloc (Nat.le_refl _) (.cells #[.int .u8 165] 5)
  with_reducible refine (hL _ _ _ (rd_one _ _ _) (HT.out.belowB b0 hT0)).mono ?_
  rintro e w1 ⟨vL, spL, rfl, oL, _, b1⟩
  obtain ⟨AL, cL, rfl, _, rL⟩ := oL.rd
  replace b1 := b0.trans (b1.mono b0.size)
  clear oL b0 hL
  go_wp2_with fail
  have b0 := (Below.refl w1.heap.size w1).alloc (Nat.le_refl _) (.cells #[.int .u8 169, .int .u8 170, .int .u8 169, .int .u8 138] 5)
  with_reducible refine (hR2 _ _ _ (rd_new _ _ _)).mono ?_
  rintro e w2 ⟨v2, sp2, rfl, o2, _, b2⟩
  obtain ⟨A2, c2, rfl, _, r2⟩ := o2.rd
  replace b2 := b0.trans (b2.mono b0.size)
  replace rL := rL.below b2
  replace b1 := b1.trans (b2.mono b1.size)
  clear o2 b0 b2 hR2
  go_wp2_with fail
  have b0 := (Below.refl w2.heap.size w2).alloc (Nat.le_refl _) (.cells #[.int .u8 255, .int .u8 255] 5)
  with_reducible refine (hR3 _ _ _ (rd_new _ _ _)).mono ?_
  rintro e w3 ⟨v3, rfl, b2⟩
  replace b2 := b0.trans (b2.mono b0.size)
  replace rL := rL.below b2
  replace r2 := r2.below b2
  replace b1 := b1.trans (b2.mono b1.size)
  clear b0 b2 hR3
  go_wp2_with fail
  have b0 := (Below.refl w3.heap.size w3).alloc (Nat.le_refl _) (.cells #[.int .u8 170] 5)
  with_reducible refine (hR4 _ _ _ (rd_one _ _ _)).mono ?_
  rintro e w4 ⟨v4, rfl, b2⟩
  replace b2 := b0.trans (b2.mono b0.size)
  replace rL := rL.below b2
  replace r2 := r2.below b2
  replace b1 := b1.trans (b2.mono b1.size)
  clear b0 b2 hR4
  go_wp2_with (go_at_call 14; (with_reducible refine (no_any _ _).mono ?_); rintro e w' ⟨rfl, rfl⟩)
  with_reducible refine (hS4 _ _ _ _ _ (rL.alloc _) (rd_new _ _ _)).mono ?_
  rintro e w5 ⟨rfl, hq⟩
  have b2 := ((Below.refl w4.heap.size w4).alloc (Nat.le_refl _) (.cells #[.int .u8 153, .int .u8 102, .int .u8 153, .int .u8 102] 5)).trans ((bel_drawn hq).mono (by simp))
  replace r2 := r2.below b2
  replace b1 := b1.trans (b2.mono b1.size)
  clear b2 hq rL
  go_wp2_with fail
  with_reducible refine (hS1 _ _ _ _ _ (r2.alloc _) (rd_one _ _ _)).mono ?_
  rintro e w6 ⟨rfl, hq⟩
  have b2 := ((Below.refl w5.heap.size w5).alloc (Nat.le_refl _) (.cells #[.int .u8 1] 5)).trans ((bel_drawn hq).mono (by simp))
  replace b1 := b1.trans (b2.mono b1.size)
  clear b2 hq r2
  go_wp2_with (go_at_call 14; (with_reducible refine (no_any _ _).mono ?_); rintro e w' ⟨rfl, rfl⟩)
  go_ret
  exact ⟨rfl, b1⟩
end Go.Proofs.YthmdfobkdaocaaaDoor
