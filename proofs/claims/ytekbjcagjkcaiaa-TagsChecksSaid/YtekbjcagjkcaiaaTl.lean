/- The law TagsChecks: the document's answer in plain words; the law's walk. -/
import Derived.Test.YtekbjcagjkcaiaaTc
import Derived.Deep.RegionHeld3
namespace Go.Proofs.Ytekbjcagjkcaiaa
open Go.RowKit Go.Proofs.Ytekbjcagjkcaiaa.PTagsChecks Go.Proofs.YtekbjcagjkcaiaaW.PrintWords
set_option linter.unusedVariables false
set_option linter.unusedSimpArgs false
theorem shape_ref (b p s : Int) : shaleref06_Shape.f b p s = some (shp b p s) := by
  unfold shaleref06_Shape.f
  repeat' split
  all_goals first
    | exact congrArg some (shp_no (by omega))
    | exact congrArg some (shp_wrap (by omega) (by omega) (by omega) (by omega) (by omega) (by omega))
theorem kind_ref (k f se be o c n z : Int) (hn : 0 ≤ n) : shaleref06_byKind.f k f se be o c n z = some (decide (1 ≤ k ∧ k ≤ 4) && mayS k f o c n) := by
  unfold shaleref06_byKind.f mayS wrap64
  by_cases h1 : k = 1
  · subst h1
    simp
    repeat' split
    all_goals first | omega | (simp; omega) | (simp_all; done) | (refine congrArg some ?_; rw [Bool.eq_iff_iff]; simp; omega) | (rw [Bool.eq_iff_iff]; simp; omega)
  · by_cases h2 : k = 2
    · subst h2
      simp
      repeat' split
      all_goals first | omega | (simp; omega) | (simp_all; done) | (refine congrArg some ?_; rw [Bool.eq_iff_iff]; simp; omega) | (rw [Bool.eq_iff_iff]; simp; omega)
    · by_cases h3 : k = 3
      · subst h3
        simp
        repeat' split
        all_goals first | omega | (simp; omega) | (simp_all; done) | (refine congrArg some ?_; rw [Bool.eq_iff_iff]; simp; omega) | (rw [Bool.eq_iff_iff]; simp; omega)
      · by_cases h4 : k = 4
        · subst h4
          simp
          repeat' split
          all_goals first | omega | (simp; omega) | (simp_all; done) | (refine congrArg some ?_; rw [Bool.eq_iff_iff]; simp; omega) | (rw [Bool.eq_iff_iff]; simp; omega)
        · have : ¬ (1 ≤ k ∧ k ≤ 4) := by omega
          simp [h1, h2, h3, h4]
          omega
theorem check_ref (b p s k f se be o c n z : Int) : shaleref06_Check.f 3 b p s k f se be o c n z = some (chk b p s k f se be o c n z) := by
  unfold shaleref06_Check.f
  rw [shape_ref]
  simp only [Option.bind_some]
  by_cases hs : shp b p s = true
  · have hw := wrap_s hs
    have e61 := @chk_61 b p s k f se be o c n z hs
    rw [if_pos hs]
    have j0t : shaleref06_Check.j0 3 true b p s k f se be o c n z = some 61 := by simp [shaleref06_Check.j0]
    have j1t : shaleref06_Check.j1 2 true k f se be o c n z = some 61 := by simp [shaleref06_Check.j1]
    by_cases c1 : se < 1
    · rw [if_pos c1, j0t, ← e61 (by rintro ⟨a1, a2, a3, a4⟩; omega)]
    rw [if_neg c1]
    by_cases c2 : se > 281474976710655
    · rw [if_pos c2, j0t, ← e61 (by rintro ⟨a1, a2, a3, a4⟩; omega)]
    rw [if_neg c2]
    by_cases c3 : be < 1
    · rw [if_pos c3, j0t, ← e61 (by rintro ⟨a1, a2, a3, a4⟩; omega)]
    rw [if_neg c3]
    by_cases c4 : be > se
    · rw [decide_eq_true c4, j0t, ← e61 (by rintro ⟨a1, a2, a3, a4⟩; omega)]
    rw [decide_eq_false c4]
    have j0f : shaleref06_Check.j0 3 false b p s k f se be o c n z = (if z < 0 then shaleref06_Check.j1 2 true k f se be o c n z else if z > 2072 * s then shaleref06_Check.j1 2 true k f se be o c n z else if n < 0 then shaleref06_Check.j1 2 true k f se be o c n z else shaleref06_Check.j1 2 (decide (n > 256 * s)) k f se be o c n z) := by
      rw [shaleref06_Check.j0, hw.1, hw.2]; rfl
    rw [j0f, j1t]
    by_cases c5 : z < 0
    · rw [if_pos c5, ← e61 (by rintro ⟨a1, a2, a3, a4⟩; omega)]
    rw [if_neg c5]
    by_cases c6 : z > 2072 * s
    · rw [if_pos c6, ← e61 (by rintro ⟨a1, a2, a3, a4⟩; omega)]
    rw [if_neg c6]
    by_cases c7 : n < 0
    · have hm : ¬ mayS k f o c n = true := by
        unfold mayS
        repeat' split
        all_goals (simp; omega)
      rw [if_pos c7, ← e61 (by rintro ⟨_, _, _, h⟩; exact hm h)]
    rw [if_neg c7]
    by_cases c8 : n > 256 * s
    · rw [decide_eq_true c8, j1t, ← e61 (by rintro ⟨a1, a2, a3, a4⟩; omega)]
    rw [decide_eq_false c8]
    have j1f : shaleref06_Check.j1 2 false k f se be o c n z = (shaleref06_byKind.f k f se be o c n z).bind fun t125 => (if t125 = true then (some 0) else (some 61)) := by
      rw [shaleref06_Check.j1]; rfl
    rw [j1f, kind_ref k f se be o c n z (by omega), Option.bind_some]
    by_cases hk : 1 ≤ k ∧ k ≤ 4
    · by_cases hm : mayS k f o c n = true
      · rw [if_pos (by simp [hk, hm])]
        unfold chk
        rw [if_pos hs, if_pos ⟨hk, by omega, by omega, hm⟩]
      · rw [if_neg (by simp [hm]), ← e61 (by rintro ⟨_, _, _, h⟩; exact hm h)]
    · rw [if_neg (by simp; omega), ← e61 (by rintro ⟨a1, _, _, _⟩; exact hk a1)]
  · rw [if_neg hs, ← chk_40 hs]
set_option maxHeartbeats 800000 in
theorem no_any (x : Int) (w : World) : Calls Try.prog 4 #[.int .i64 x] w fun e w' => e = .returned (.int .i64 x) ∧ w = w' := by
  go_enter Try.func4, Try.ntmps4
  go_wp2
  go_ret
  exact ⟨rfl, rfl⟩
theorem cells_of {b p s k f se be o c n z : Int} {G : Nat} {wx : World} (hg : Blk wx G 23 [.int .i64 b, .int .i64 p, .int .i64 s]) (ht : Blk wx (G + 1) 26 [.int .i64 k, .int .i64 f, .int .u64 se, .int .u64 be, .int .i64 o, .int .i64 c, .int .i64 n, .int .i64 z]) : wx.cell? ⟨G, 0, none⟩ = some (.int .i64 b) ∧ wx.cell? ⟨G, 1, none⟩ = some (.int .i64 p) ∧ wx.cell? ⟨G, 2, none⟩ = some (.int .i64 s) ∧ wx.cell? ⟨G + 1, 0, none⟩ = some (.int .i64 k) ∧ wx.cell? ⟨G + 1, 1, none⟩ = some (.int .i64 f) ∧ wx.cell? ⟨G + 1, 2, none⟩ = some (.int .u64 se) ∧ wx.cell? ⟨G + 1, 3, none⟩ = some (.int .u64 be) ∧ wx.cell? ⟨G + 1, 4, none⟩ = some (.int .i64 o) ∧ wx.cell? ⟨G + 1, 5, none⟩ = some (.int .i64 c) ∧ wx.cell? ⟨G + 1, 6, none⟩ = some (.int .i64 n) ∧ wx.cell? ⟨G + 1, 7, none⟩ = some (.int .i64 z) :=
  ⟨by rw [hg.cell]; rfl, by rw [hg.cell]; rfl, by rw [hg.cell]; rfl, by rw [ht.cell]; rfl, by rw [ht.cell]; rfl, by rw [ht.cell]; rfl, by rw [ht.cell]; rfl, by rw [ht.cell]; rfl, by rw [ht.cell]; rfl, by rw [ht.cell]; rfl, by rw [ht.cell]; rfl⟩
set_option maxHeartbeats 3200000 in
theorem checks_walk (b p s k f se be o c n z : Int) (w : World) : Calls Try.prog 3 #[.agg #[.int .i64 b, .int .i64 p, .int .i64 s], .agg #[.int .i64 k, .int .i64 f, .int .u64 se, .int .u64 be, .int .i64 o, .int .i64 c, .int .i64 n, .int .i64 z]] w fun e w' =>
    e = .returned (.bool true) ∧ Below w.heap.size w w' := by
  have hB : Below w.heap.size w ((w.alloc (.cells #[.int .i64 b, .int .i64 p, .int .i64 s] 23)).alloc (.cells #[.int .i64 k, .int .i64 f, .int .u64 se, .int .u64 be, .int .i64 o, .int .i64 c, .int .i64 n, .int .i64 z] 26)) := ((Below.refl _ w).alloc (Nat.le_refl _) _).alloc (by simp) _
  have hbg : Blk ((w.alloc (.cells #[.int .i64 b, .int .i64 p, .int .i64 s] 23)).alloc (.cells #[.int .i64 k, .int .i64 f, .int .u64 se, .int .u64 be, .int .i64 o, .int .i64 c, .int .i64 n, .int .i64 z] 26)) w.heap.size 23 [.int .i64 b, .int .i64 p, .int .i64 s] := (Blk.new w _ [.int .i64 b, .int .i64 p, .int .i64 s]).alloc _
  have hbt : Blk ((w.alloc (.cells #[.int .i64 b, .int .i64 p, .int .i64 s] 23)).alloc (.cells #[.int .i64 k, .int .i64 f, .int .u64 se, .int .u64 be, .int .i64 o, .int .i64 c, .int .i64 n, .int .i64 z] 26)) (w.heap.size + 1) 26 [.int .i64 k, .int .i64 f, .int .u64 se, .int .u64 be, .int .i64 o, .int .i64 c, .int .i64 n, .int .i64 z] := by
    have h := Blk.new (w.alloc (.cells #[.int .i64 b, .int .i64 p, .int .i64 s] 23)) 26 [.int .i64 k, .int .i64 f, .int .u64 se, .int .u64 be, .int .i64 o, .int .i64 c, .int .i64 n, .int .i64 z]
    rw [World.size_alloc] at h
    exact h
  obtain ⟨G, hG⟩ : ∃ G, G = w.heap.size := ⟨_, rfl⟩
  go_enter Try.func3, Try.ntmps3
  go_wp2
  obtain ⟨w2, hw2⟩ : ∃ w2, w2 = ((w.alloc (.cells #[.int .i64 b, .int .i64 p, .int .i64 s] 23)).alloc (.cells #[.int .i64 k, .int .i64 f, .int .u64 se, .int .u64 be, .int .i64 o, .int .i64 c, .int .i64 n, .int .i64 z] 26)) := ⟨_, rfl⟩
  rw [← hw2] at hB hbg hbt ⊢
  rw [← hG] at hbg hbt ⊢
  clear hw2 hG
  have hbg2 : Blk w2.drew G 23 [.int .i64 b, .int .i64 p, .int .i64 s] := hbg
  have hbt2 : Blk w2.drew (G + 1) 26 [.int .i64 k, .int .i64 f, .int .u64 se, .int .u64 be, .int .i64 o, .int .i64 c, .int .i64 n, .int .i64 z] := hbt
  have hB2 : Below w.heap.size w w2.drew := ⟨hB.os, hB.tape, hB.output, hB.size, hB.block⟩
  clear hbg hbt hB
  go_region_held3 (fun wx => wx.cell? ⟨G, 0, none⟩ = some (.int .i64 b) ∧ wx.cell? ⟨G, 1, none⟩ = some (.int .i64 p) ∧ wx.cell? ⟨G, 2, none⟩ = some (.int .i64 s) ∧ wx.cell? ⟨G + 1, 0, none⟩ = some (.int .i64 k) ∧ wx.cell? ⟨G + 1, 1, none⟩ = some (.int .i64 f) ∧ wx.cell? ⟨G + 1, 2, none⟩ = some (.int .u64 se) ∧ wx.cell? ⟨G + 1, 3, none⟩ = some (.int .u64 be) ∧ wx.cell? ⟨G + 1, 4, none⟩ = some (.int .i64 o) ∧ wx.cell? ⟨G + 1, 5, none⟩ = some (.int .i64 c) ∧ wx.cell? ⟨G + 1, 6, none⟩ = some (.int .i64 n) ∧ wx.cell? ⟨G + 1, 7, none⟩ = some (.int .i64 z)) (exact cells_of (by assumption) (by assumption)) (first
    | (go_at_call 5; (with_reducible refine (check_any b p s k f se be o c n z _).mono ?_); rintro e w3 ⟨rfl, hb3⟩; have hbg3 := Blk.frm hbg2 (Frm.of_below (ex := fun _ => False) hb3) (fun h => h); have hbt3 := Blk.frm hbt2 (Frm.of_below (ex := fun _ => False) hb3) (fun h => h); have hB3 := hB2.trans (hb3.mono hB2.size); dsimp only)
    | (go_at_call 4; (with_reducible refine (no_any _ _).mono ?_); rintro e w' ⟨rfl, rfl⟩; dsimp only)
    | (go_at_call 6; (with_reducible refine (shaleref06_Check.calls 3 b p s k f se be o c n z _ _ (check_ref b p s k f se be o c n z)).mono ?_); rintro e w4 ⟨rfl, hb4⟩; have hbg4 := Blk.frm hbg3 (Frm.of_below (ex := fun _ => False) hb4) (fun h => h); have hbt4 := Blk.frm hbt3 (Frm.of_below (ex := fun _ => False) hb4) (fun h => h); have hB4 := hB3.trans (hb4.mono hB3.size); dsimp only))
  all_goals
    go_wp2
    go_ret
    exact ⟨rfl, by assumption⟩
end Go.Proofs.Ytekbjcagjkcaiaa
