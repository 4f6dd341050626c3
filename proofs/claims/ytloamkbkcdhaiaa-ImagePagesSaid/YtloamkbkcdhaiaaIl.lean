/- Walks of lent and of the law ImageChecks. -/
import Derived.Test.YtloamkbkcdhaiaaIm
import Derived.Deep.RegionHeld3
namespace Go.Proofs.Ytloamkbkcdhaiaa
open Go.RowKit Go.Proofs.Ytloamkbkcdhaiaa.PImageChecks Go.Proofs.YtloamkbkcdhaiaaW.PrintWords
set_option linter.unusedVariables false
set_option linter.unusedSimpArgs false
def img (b p s : Int) (A : Option Addr) (n c : Nat) (A2 : Option Addr) (n2 c2 : Nat) : List Value := [.int .i64 b, .int .i64 p, .int .i64 s, .slice A n c, .slice A2 n2 c2]
set_option maxHeartbeats 1600000 in
theorem lent_any (b p s : Int) (A : Option Addr) (n c : Nat) (A2 : Option Addr) (n2 c2 : Nat) (l : List Int) (lb : List Bool) (w : World) (hl : l.length = n) (hlb : lb.length = n2) (hr : Rd w A (ints l)) (hrb : Rd w A2 (bools lb)) (hm : n ≤ 140737488351232) (hm2 : n2 ≤ 140737488351232) :
    Calls Try.prog 6 #[.agg #[.int .i64 b, .int .i64 p, .int .i64 s, .slice A n c, .slice A2 n2 c2]] w fun e w' =>
      ∃ F cF M cM, e = .returned (.tuple #[.agg #[.int .i64 b, .int .i64 p, .int .i64 s, .slice F n cF, .slice M n2 cM], .slice F (n + 70) cF, .slice M (n2 + 9) cM]) ∧ Rd w' F (ints (l ++ pad 70)) ∧ n + 70 ≤ cF ∧ Rd w' M (bools (lb ++ padb 9)) ∧ n2 + 9 ≤ cM ∧ Below w.heap.size w w' := by
  obtain ⟨w2, hw2⟩ : ∃ w2, w2 = (w.alloc (.cells #[.int .i64 b, .int .i64 p, .int .i64 s, .slice A n c, .slice A2 n2 c2] 27)).alloc (.cells #[.int .i64 0, .int .i64 0, .int .i64 0, .slice none 0 0, .slice none 0 0] 27) := ⟨_, rfl⟩
  have hB : Below w.heap.size w w2 := by rw [hw2]; exact ((Below.refl _ w).alloc (Nat.le_refl _) _).alloc (by simp) _
  have hbg : Blk w2 w.heap.size 27 [.int .i64 b, .int .i64 p, .int .i64 s, .slice A n c, .slice A2 n2 c2] := by rw [hw2]; exact (Blk.new w _ [.int .i64 b, .int .i64 p, .int .i64 s, .slice A n c, .slice A2 n2 c2]).alloc _
  have hbt : Blk w2 (w.heap.size + 1) 27 [.int .i64 0, .int .i64 0, .int .i64 0, .slice none 0 0, .slice none 0 0] := by
    have h := Blk.new (w.alloc (.cells #[.int .i64 b, .int .i64 p, .int .i64 s, .slice A n c, .slice A2 n2 c2] 27)) 27 [.int .i64 0, .int .i64 0, .int .i64 0, .slice none 0 0, .slice none 0 0]
    rw [World.size_alloc] at h
    rw [hw2]; exact h
  go_enter Try.func6, Try.ntmps6
  go_wp2_with fail
  rw [← hw2]
  obtain ⟨G, hG⟩ : ∃ G, G = w.heap.size := ⟨_, rfl⟩
  rw [← hG] at hbg hbt ⊢
  have HG := Lib.hid hG
  have hlt2 := hbt.lt
  clear hG hw2
  with_reducible refine (roomy_any A n c l w2 hl (hr.below hB) hm).mono ?_
  rintro e w3 ⟨v3, s3, rfl, o3, f3, hb3⟩
  obtain ⟨F, cF, rfl, hcF, hF⟩ := o3.rd
  replace hbg := hbg.frm (Frm.of_below (ex := fun _ => False) hb3) (fun h => h)
  replace hbt := hbt.frm (Frm.of_below (ex := fun _ => False) hb3) (fun h => h)
  replace hB := hB.trans (hb3.mono hB.size)
  have hs3 := hb3.size
  clear hb3 o3
  have g4 : w3.cell? ⟨G, 4, none⟩ = some (.slice A2 n2 c2) := by rw [hbg.cell]; rfl
  go_wp2_with fail
  with_reducible refine (marks_any A2 n2 c2 lb w3 hlb (hrb.below hB) hm2).mono ?_
  rintro e w4 ⟨v4, s4, rfl, o4, f4, hb4⟩
  obtain ⟨M, cM, rfl, hcM, hM⟩ := o4.rd
  replace hF := hF.below hb4
  replace hbg := hbg.frm (Frm.of_below (ex := fun _ => False) hb4) (fun h => h)
  replace hbt := hbt.frm (Frm.of_below (ex := fun _ => False) hb4) (fun h => h)
  replace hB := hB.trans (hb4.mono hB.size)
  clear hb4 o4 g4
  have g0 : w4.cell? ⟨G, 0, none⟩ = some (.int .i64 b) := by rw [hbg.cell]; rfl
  have g1 : w4.cell? ⟨G, 1, none⟩ = some (.int .i64 p) := by rw [hbg.cell]; rfl
  have g2 : w4.cell? ⟨G, 2, none⟩ = some (.int .i64 s) := by rw [hbg.cell]; rfl
  have g3 : w4.cell? ⟨G, 3, none⟩ = some (.slice A n c) := by rw [hbg.cell]; rfl
  have g4 : w4.cell? ⟨G, 4, none⟩ = some (.slice A2 n2 c2) := by rw [hbg.cell]; rfl
  have z0 := hbt.frozen 0
  have z1 := hbt.frozen 1
  have z2 := hbt.frozen 2
  have z3 := hbt.frozen 3
  have z4 := hbt.frozen 4
  have t0 : w4.cell? ⟨G + 1, 0, none⟩ = some (.int .i64 0) := by rw [hbt.cell]; rfl
  have t1 : w4.cell? ⟨G + 1, 1, none⟩ = some (.int .i64 0) := by rw [hbt.cell]; rfl
  have t2 : w4.cell? ⟨G + 1, 2, none⟩ = some (.int .i64 0) := by rw [hbt.cell]; rfl
  have t3 : w4.cell? ⟨G + 1, 3, none⟩ = some (.slice none 0 0) := by rw [hbt.cell]; rfl
  have t4 : w4.cell? ⟨G + 1, 4, none⟩ = some (.slice none 0 0) := by rw [hbt.cell]; rfl
  have hs1 := sl_toi F (n + 70) cF n (by omega) (by omega)
  have hs2 := sl_tob M (n2 + 9) cM n2 (by omega) (by omega)
  go_wp2
  have hne : ∀ u : Nat, (G : Nat) ≠ G + 1 := fun _ => by omega
  go_region_held3 (fun wx => wx.cell? ⟨G, 0, none⟩ = some (.int .i64 b) ∧ wx.cell? ⟨G, 1, none⟩ = some (.int .i64 p) ∧ wx.cell? ⟨G, 2, none⟩ = some (.int .i64 s) ∧ wx.cell? ⟨G, 3, none⟩ = some (.slice A n c) ∧ wx.cell? ⟨G, 4, none⟩ = some (.slice A2 n2 c2)) (go_keep) (fail)
  go_wp2
  have hfs : Frm (fun q => q = G + 1) w4 (((((w4.setCell ⟨G + 1, 0, none⟩ (.int .i64 b)).setCell ⟨G + 1, 1, none⟩ (.int .i64 p)).setCell ⟨G + 1, 2, none⟩ (.int .i64 s)).setCell ⟨G + 1, 3, none⟩ (.slice F n cF)).setCell ⟨G + 1, 4, none⟩ (.slice M n2 cM)).drew :=
    (((((((Frm.refl (fun q => q = G + 1) w4).setCell (p := ⟨G + 1, 0, none⟩) (fun _ => rfl) _).setCell (p := ⟨G + 1, 1, none⟩) (fun _ => rfl) _).setCell (p := ⟨G + 1, 2, none⟩) (fun _ => rfl) _).setCell (p := ⟨G + 1, 3, none⟩) (fun _ => rfl) _).setCell (p := ⟨G + 1, 4, none⟩) (fun _ => rfl) _)).drew
  have hbs : Blk (((((w4.setCell ⟨G + 1, 0, none⟩ (.int .i64 b)).setCell ⟨G + 1, 1, none⟩ (.int .i64 p)).setCell ⟨G + 1, 2, none⟩ (.int .i64 s)).setCell ⟨G + 1, 3, none⟩ (.slice F n cF)).setCell ⟨G + 1, 4, none⟩ (.slice M n2 cM)).drew (G + 1) 27 [.int .i64 b, .int .i64 p, .int .i64 s, .slice F n cF, .slice M n2 cM] :=
    (((((hbt.set_ 0 (.int .i64 b)).set_ 1 (.int .i64 p)).set_ 2 (.int .i64 s)).set_ 3 (.slice F n cF)).set_ 4 (.slice M n2 cM)).drew
  have hB2 := below_frm hB hB.size hfs (fun q hq => by rw [hq]; have := HG.out; omega)
  refine bodyPost_ret (results_ctt rfl _ _ (G + 1) 27 #[.int .i64 b, .int .i64 p, .int .i64 s, .slice F n cF, .slice M n2 cM] (0, 0) _ rfl hbs Try.underlying27 rfl (by kernel_rfl)) rfl ?_
  refine ⟨F, cF, M, cM, rfl, hF.frm hfs ?_, hcF, hM.frm hfs ?_, hcM, hB2⟩
  · intro ad e hq
    have := f3 ad.block (by rw [e]; rfl)
    omega
  · intro ad e hq
    have := f4 ad.block (by rw [e]; rfl)
    omega
theorem shape_i (a b c : Int) : ∃ r, chip_shape.f a b c = some r ∧ shaleref04_Shape.f a b c = some r ∧ (r = true → 1 ≤ c ∧ c ≤ 8) := by
  unfold chip_shape.f shaleref04_Shape.f
  by_cases h1 : a ≥ 8
  · rw [if_pos h1, if_neg (show ¬ a < 8 by omega)]
    by_cases h2 : a ≤ 4096
    · rw [if_pos h2, if_neg (show ¬ a > 4096 by omega)]
      by_cases h3 : b ≥ 4
      · rw [if_pos h3, if_neg (show ¬ b < 4 by omega)]
        by_cases h4 : b ≤ 256
        · rw [if_pos h4, if_neg (show ¬ b > 256 by omega)]
          by_cases h5 : c ≥ 1
          · rw [if_pos h5, if_neg (show ¬ c < 1 by omega)]
            by_cases h6 : c ≤ 8
            · rw [if_pos h6, if_neg (show ¬ c > 8 by omega)]
              exact ⟨_, rfl, rfl, fun _ => ⟨h5, h6⟩⟩
            · rw [if_neg h6, if_pos (show c > 8 by omega)]; exact ⟨_, rfl, rfl, fun h => by cases h⟩
          · rw [if_neg h5, if_pos (show c < 1 by omega)]; exact ⟨_, rfl, rfl, fun h => by cases h⟩
        · rw [if_neg h4, if_pos (show b > 256 by omega)]; exact ⟨_, rfl, rfl, fun h => by cases h⟩
      · rw [if_neg h3, if_pos (show b < 4 by omega)]; exact ⟨_, rfl, rfl, fun h => by cases h⟩
    · rw [if_neg h2, if_pos (show a > 4096 by omega)]; exact ⟨_, rfl, rfl, fun h => by cases h⟩
  · rw [if_neg h1, if_pos (show a < 8 by omega)]; exact ⟨_, rfl, rfl, fun h => by cases h⟩
theorem check_i (b p s : Int) (l : List Int) (lb : List Bool) : ∃ r, image_Check.f b p s l lb = some r ∧ shaleref20_Check.f b p s l lb = some r := by
  obtain ⟨r, h1, h2, h3⟩ := shape_i b p s
  unfold image_Check.f shaleref20_Check.f image_sizes.f chip_Spare.f shaleref20_long.f shaleref20_spare.f
  rw [h1, h2]
  cases r with
  | false => exact ⟨40, by simp, by simp⟩
  | true =>
    have h4 := h3 rfl
    have e1 : wrap64 (s * 256) = 256 * s := by unfold wrap64; omega
    have e2 : wrap64 (256 * s) = 256 * s := by unfold wrap64; omega
    simp only [Option.bind_some, if_true, e1, e2]
    by_cases c1 : (l.length : Int) = wrap64 (wrap64 (b * p) * wrap64 (256 * s + wrap64 (54 + wrap64 (3 * s))))
    · rw [if_pos c1]
      by_cases c2 : (lb.length : Int) = b
      · rw [if_pos c2]; exact ⟨0, rfl, rfl⟩
      · rw [if_neg c2]; exact ⟨47, rfl, rfl⟩
    · rw [if_neg c1]; exact ⟨47, rfl, rfl⟩
set_option maxHeartbeats 800000 in
theorem no_any (x : Int) (w : World) : Calls Try.prog 8 #[.int .i64 x] w fun e w' => e = .returned (.int .i64 x) ∧ w = w' := by
  go_enter Try.func8, Try.ntmps8
  go_wp2
  go_ret
  exact ⟨rfl, rfl⟩
theorem cells5 {b p s : Int} {A A2 : Option Addr} {n c n2 c2 G : Nat} {wx : World} (hg : Blk wx G 27 [.int .i64 b, .int .i64 p, .int .i64 s, .slice A n c, .slice A2 n2 c2]) : wx.cell? ⟨G, 0, none⟩ = some (.int .i64 b) ∧ wx.cell? ⟨G, 1, none⟩ = some (.int .i64 p) ∧ wx.cell? ⟨G, 2, none⟩ = some (.int .i64 s) ∧ wx.cell? ⟨G, 3, none⟩ = some (.slice A n c) ∧ wx.cell? ⟨G, 4, none⟩ = some (.slice A2 n2 c2) :=
  ⟨by rw [hg.cell]; rfl, by rw [hg.cell]; rfl, by rw [hg.cell]; rfl, by rw [hg.cell]; rfl, by rw [hg.cell]; rfl⟩
set_option maxHeartbeats 3200000 in
theorem checks_walk (b p s : Int) (A : Option Addr) (n c : Nat) (A2 : Option Addr) (n2 c2 : Nat) (l : List Int) (lb : List Bool) (w : World) (hl : l.length = n) (hlb : lb.length = n2) (hr : Rd w A (ints l)) (hrb : Rd w A2 (bools lb)) (hm : n ≤ 140737488351232) (hm2 : n2 ≤ 140737488351232) (hc : n ≤ c) (hc2 : n2 ≤ c2) :
    Calls Try.prog 3 #[.agg #[.int .i64 b, .int .i64 p, .int .i64 s, .slice A n c, .slice A2 n2 c2]] w fun e w' => e = .returned (.bool true) ∧ Below w.heap.size w w' := by
  obtain ⟨w2, hw2⟩ : ∃ w2, w2 = w.alloc (.cells #[.int .i64 b, .int .i64 p, .int .i64 s, .slice A n c, .slice A2 n2 c2] 27) := ⟨_, rfl⟩
  have hB : Below w.heap.size w w2 := by rw [hw2]; exact (Below.refl _ w).alloc (Nat.le_refl _) _
  have hbg : Blk w2 w.heap.size 27 [.int .i64 b, .int .i64 p, .int .i64 s, .slice A n c, .slice A2 n2 c2] := by rw [hw2]; exact Blk.new w _ [.int .i64 b, .int .i64 p, .int .i64 s, .slice A n c, .slice A2 n2 c2]
  obtain ⟨r, hC1, hC2⟩ := check_i b p s l lb
  go_enter Try.func3, Try.ntmps3
  go_wp2_with fail
  rw [← hw2]
  obtain ⟨G, hG⟩ : ∃ G, G = w.heap.size := ⟨_, rfl⟩
  rw [← hG] at hbg ⊢
  have HG := Lib.hid hG
  clear hG hw2
  with_reducible refine (lent_any b p s A n c A2 n2 c2 l lb w2 hl hlb (hr.below hB) (hrb.below hB) hm hm2).mono ?_
  rintro e w3 ⟨F, cF, M, cM, rfl, hF, hcF, hM, hcM, hb3⟩
  replace hbg := hbg.frm (Frm.of_below (ex := fun _ => False) hb3) (fun h => h)
  replace hB := hB.trans (hb3.mono hB.size)
  clear hb3
  have hIC : ∀ wx, Rd wx F (ints (l ++ pad 70)) → Rd wx M (bools (lb ++ padb 9)) → Calls Try.prog 7 #[.agg #[.int .i64 b, .int .i64 p, .int .i64 s, .slice F n cF, .slice M n2 cM]] wx fun e w' => e = .returned (.int .i64 r) ∧ Below wx.heap.size wx w' := fun wx h1 h2 => by
    rw [ints_app] at h1
    rw [bools_app] at h2
    have h := image_Check.calls b p s F cF l M cM lb r wx (C_ints rfl (by omega) h1.left) (by omega) (C_bools rfl (by omega) h2.left) (by omega) hC1
    rw [hl, hlb] at h
    exact h
  have hRC : ∀ wx, Rd wx A (ints l) → Rd wx A2 (bools lb) → Calls Try.prog 9 #[.agg #[.int .i64 b, .int .i64 p, .int .i64 s, .slice A n c, .slice A2 n2 c2]] wx fun e w' => e = .returned (.int .i64 r) ∧ Below wx.heap.size wx w' := fun wx h1 h2 => by
    have h := shaleref20_Check.calls b p s A c l A2 c2 lb r wx (C_ints rfl (by omega) h1) (by omega) (C_bools rfl (by omega) h2) (by omega) hC2
    rw [hl, hlb] at h
    exact h
  have HL := Lib.hid hl
  have HLB := Lib.hid hlb
  clear hl hlb hC1 hC2
  replace hr := hr.below hB
  replace hrb := hrb.below hB
  go_wp2_with fail
  with_reducible refine (hIC _ (hF.alloc _) (hM.alloc _)).mono ?_
  rintro e w5 ⟨rfl, hb5⟩
  have hb35 : Below w3.heap.size w3 w5 := ((Below.refl _ w3).alloc (Nat.le_refl _) _).trans (hb5.mono (by simp))
  clear hb5 hIC
  replace hF := hF.below hb35
  replace hM := hM.below hb35
  replace hr := hr.below hb35
  replace hrb := hrb.below hb35
  replace hbg := hbg.frm (Frm.of_below (ex := fun _ => False) hb35) (fun h => h)
  replace hB := hB.trans (hb35.mono hB.size)
  clear hb35
  go_wp2
  have hF5 : Rd w5.drew F (ints (l ++ pad 70)) := hF
  have hM5 : Rd w5.drew M (bools (lb ++ padb 9)) := hM
  have hr5 : Rd w5.drew A (ints l) := hr
  have hrb5 : Rd w5.drew A2 (bools lb) := hrb
  have hbg5 : Blk w5.drew G 27 [.int .i64 b, .int .i64 p, .int .i64 s, .slice A n c, .slice A2 n2 c2] := hbg
  have hB5 : Below w.heap.size w w5.drew := ⟨hB.os, hB.tape, hB.output, hB.size, hB.block⟩
  clear hF hM hr hrb hbg hB
  go_region_held3 (fun wx => wx.cell? ⟨G, 0, none⟩ = some (.int .i64 b) ∧ wx.cell? ⟨G, 1, none⟩ = some (.int .i64 p) ∧ wx.cell? ⟨G, 2, none⟩ = some (.int .i64 s) ∧ wx.cell? ⟨G, 3, none⟩ = some (.slice A n c) ∧ wx.cell? ⟨G, 4, none⟩ = some (.slice A2 n2 c2)) (exact cells5 (by assumption)) (first
    | (go_at_call 8; (with_reducible refine (no_any _ _).mono ?_); rintro e w' ⟨rfl, rfl⟩; dsimp only)
    | (go_at_call 9; (with_reducible refine (hRC _ hr5 hrb5).mono ?_); rintro e w6 ⟨rfl, hb6⟩; have hF6 := hF5.below hb6; have hM6 := hM5.below hb6; have hr6 := hr5.below hb6; have hrb6 := hrb5.below hb6; have hbg6 := hbg5.frm (Frm.of_below (ex := fun _ => False) hb6) (fun h => h); have hB6 := hB5.trans (hb6.mono hB5.size); dsimp only)
    | (go_at_call 10; (with_reducible refine (kept_any F A n cF c l _ HL.out hF6 hr6 hcF hc hm).mono ?_); rintro e w7 ⟨rfl, m7, rfl⟩; have hM7 := hM6.drewN m7; have hrb7 := hrb6.drewN m7; have hbg7 := hbg6.drewN m7; have hB7 : Below w.heap.size w (w6.drewN m7) := ⟨hB6.os, hB6.tape, hB6.output, hB6.size, hB6.block⟩; dsimp only)
    | (go_at_call 11; (with_reducible refine (held_any M A2 n2 cM c2 lb _ HLB.out hM7 hrb7 hm2).mono ?_); rintro e w8 ⟨rfl, m8, rfl⟩; have hbg8 := hbg7.drewN m8; have hB8 : Below w.heap.size w ((w6.drewN m7).drewN m8) := ⟨hB7.os, hB7.tape, hB7.output, hB7.size, hB7.block⟩; dsimp only))
  all_goals
    go_wp2
    go_ret
    exact ⟨rfl, by assumption⟩
end Go.Proofs.Ytloamkbkcdhaiaa
