/- Walk of the program's Page (layer image). -/
import Derived.Test.YtloamkbkcdhaiaaIq
namespace Go.Proofs.Ytloamkbkcdhaiaa
open Go.RowKit Go.Proofs.Ytloamkbkcdhaiaa.PImageChecks Go.Proofs.YtloamkbkcdhaiaaW.PrintWords
set_option linter.unusedVariables false
set_option linter.unusedSimpArgs false
set_option maxRecDepth 100000 in
set_option maxHeartbeats 3200000 in
/-- The program's Page. -/
theorem Page_any (b p s : Int) (A : Option Addr) (n c : Nat) (A2 : Option Addr) (n2 c2 : Nat) (l : List Int) (lb : List Bool) (bl pg r : Int) (w : World) (hl : l.length = n) (hlb : lb.length = n2) (hr : Rd w A (ints l)) (hrb : Rd w A2 (bools lb)) (hm : n ≤ 140737488351232) (hm2 : n2 ≤ 140737488351232) (hc : n ≤ c) (hc2 : n2 ≤ c2) (hCK : shaleref20_Check.f b p s l lb = some r) (hIK : image_Check.f b p s l lb = some r) :
    Calls Try.prog 13 #[.agg #[.int .i64 b, .int .i64 p, .int .i64 s, .slice A n c, .slice A2 n2 c2], .agg #[.int .i64 bl, .int .i64 pg]] w (PgP (pageT r b p s l bl pg) w) := by
  obtain ⟨w2, hw2⟩ : ∃ w2, w2 = ((w.alloc (.cells #[.int .i64 b, .int .i64 p, .int .i64 s, .slice A n c, .slice A2 n2 c2] 27)).alloc (.cells #[.int .i64 bl, .int .i64 pg] 38)).alloc (.cells #[.slice none 0 0, .slice none 0 0] 40) := ⟨_, rfl⟩
  have hB : Below w.heap.size w w2 := by rw [hw2]; exact (((Below.refl _ w).alloc (Nat.le_refl _) _).alloc (by simp) _).alloc (by simp; omega) _
  have kg : Blk w2 w.heap.size 27 [.int .i64 b, .int .i64 p, .int .i64 s, .slice A n c, .slice A2 n2 c2] := by rw [hw2]; exact ((Blk.new w _ [.int .i64 b, .int .i64 p, .int .i64 s, .slice A n c, .slice A2 n2 c2]).alloc _).alloc _
  have kp : Blk w2 (w.heap.size + 1) 38 [.int .i64 bl, .int .i64 pg] := by
    have h := (Blk.new (w.alloc (.cells #[.int .i64 b, .int .i64 p, .int .i64 s, .slice A n c, .slice A2 n2 c2] 27)) 38 [.int .i64 bl, .int .i64 pg]).alloc (.cells #[.slice none 0 0, .slice none 0 0] 40)
    rw [World.size_alloc] at h
    rw [hw2]; exact h
  have kz : Blk w2 (w.heap.size + 2) 40 [.slice none 0 0, .slice none 0 0] := by
    have h := Blk.new ((w.alloc (.cells #[.int .i64 b, .int .i64 p, .int .i64 s, .slice A n c, .slice A2 n2 c2] 27)).alloc (.cells #[.int .i64 bl, .int .i64 pg] 38)) 40 [.slice none 0 0, .slice none 0 0]
    rw [World.size_alloc, World.size_alloc] at h
    rw [hw2]; exact h
  have hRC : ∀ wx, Rd wx A (ints l) → Rd wx A2 (bools lb) → Calls Try.prog 7 #[.agg #[.int .i64 b, .int .i64 p, .int .i64 s, .slice A n c, .slice A2 n2 c2]] wx fun e w' => e = .returned (.int .i64 r) ∧ Below wx.heap.size wx w' := fun wx h1 h2 => by
    have h := image_Check.calls b p s A c l A2 c2 lb r wx (C_ints rfl (by omega) h1) (by omega) (C_bools rfl (by omega) h2) (by omega) hIK
    rw [hl, hlb] at h
    exact h
  have hck := hRC w2 (hr.below hB) (hrb.below hB)
  obtain ⟨G, hG⟩ : ∃ G, G = w.heap.size := ⟨_, rfl⟩
  rw [← hG] at kg kp kz
  have HG := Lib.hid hG
  have hr2 := hr.below hB
  have HL := Lib.hid hl
  have HCK := Lib.hid hCK
  clear hRC hr hrb hl hlb hm2 hc2
  obtain ⟨g0, g1, g2, g3, g4⟩ := cells5 kg
  obtain ⟨TT, hT⟩ : ∃ T, T = pageT r b p s l bl pg := ⟨_, rfl⟩
  rw [← hT]
  have HT := Lib.hid hT
  clear hT
  go_enter Try.func13, Try.ntmps13
  go_wp2_with fail
  rw [← hw2, ← hG]
  clear hw2 hG
  with_reducible refine hck.mono ?_
  rintro e w3 ⟨rfl, b3⟩
  clear hck g0 g1 g2 g3 g4
  replace kg := kg.frm (ex := fun _ => False) (Frm.of_below b3) id
  replace kp := kp.frm (ex := fun _ => False) (Frm.of_below b3) id
  replace kz := kz.frm (ex := fun _ => False) (Frm.of_below b3) id
  replace hr2 := hr2.below b3
  replace hB := hB.trans (b3.mono hB.size)
  clear b3
  obtain ⟨g0, g1, g2, g3, g4⟩ := cells5 kg
  have p0 : w3.cell? ⟨G + 1, 0, none⟩ = some (.int .i64 bl) := kp.cell 0
  have p1 : w3.cell? ⟨G + 1, 1, none⟩ = some (.int .i64 pg) := kp.cell 1
  have z0 : w3.cell? ⟨G + 2, 0, none⟩ = some (.slice none 0 0) := kz.cell 0
  have z1 : w3.cell? ⟨G + 2, 1, none⟩ = some (.slice none 0 0) := kz.cell 1
  have f0 := kz.frozen 0
  have f1 := kz.frozen 1
  by_cases hr0 : r = 0
  · subst hr0
    obtain ⟨c1, c2', c3, c4, c5, c6, c7, c8, c9, c10⟩ := ck_zero hCK
    clear hCK
    by_cases hout : bl < 0 ∨ b ≤ bl ∨ pg < 0 ∨ p ≤ pg
    · have hpt : pageT 0 b p s l bl pg = ([], [], 41) := by unfold pageT; rw [if_neg (by simp), if_pos hout]
      obtain rfl := HT.out.trans hpt
      clear c1 c2' c3 c4 c5 c6 c7 c8 c9 c10 hpt HT
      by_cases h1 : bl < 0
      rotate_left
      by_cases h2 : b ≤ bl
      rotate_left
      by_cases h3 : pg < 0
      rotate_left
      have h4 : p ≤ pg := by omega
      all_goals
        (clear hout
         go_wp2
         refine bodyPost_ret (results_ct' rfl _ _ (G + 2) 40 #[.slice none 0 0, .slice none 0 0] (0, 0) _ rfl (set2 (.slice none 0 0) (.slice none 0 0) kz hB (by have := HG.out; omega)).1 Try.underlying40 rfl (by kernel_rfl)) rfl ?_
         exact ⟨none, 0, none, 0, rfl, Nat.le_refl _, Nat.le_refl _, Rd.nil _ _, Rd.nil _ _, (set2 (.slice none 0 0) (.slice none 0 0) kz hB (by have := HG.out; omega)).2.1⟩)
    · have q1 : ¬ bl < 0 := by omega
      have q2 : ¬ b ≤ bl := by omega
      have q3 : ¬ pg < 0 := by omega
      have q4 : ¬ p ≤ pg := by omega
      obtain ⟨k, hk, hw1, hk1, hk2, hk3⟩ := at_facts (bl := bl) (pg := pg) (L := l.length) c1 c2' c3 c4 c5 c6 c9 (by omega) (by omega) (by omega) (by omega)
      have hpt : pageT 0 b p s l bl pg = (ptI l (k * lgP s) (dtP s), ptI l (k * lgP s + dtP s) (spP s), 0) := by unfold pageT; rw [if_neg (by simp), if_neg hout, hk]; rfl
      obtain ⟨at1, hat1⟩ : ∃ x, x = k * lgP s := ⟨_, rfl⟩
      obtain ⟨at2, hat2⟩ : ∃ x, x = at1 + dtP s := ⟨_, rfl⟩
      rw [← hat1, ← hat2] at hpt
      obtain rfl := HT.out.trans hpt
      clear HT hpt
      have hd1 : (dtP s : Int) = 256 * s := by unfold dtP; omega
      have hsp1 : (spP s : Int) = 54 + 3 * s := by unfold spP; omega
      have hlg : (lgP s : Int) = 259 * s + 54 := by unfold lgP; omega
      have hsum : dtP s + spP s = lgP s := by omega
      have hll := HL.out
      obtain ⟨ad, rfl, _⟩ := hr2.at_ (k := 0) (ints_at l 0 (by omega))
      obtain ⟨at3, hat3⟩ : ∃ x, x = at2 + spP s := ⟨_, rfl⟩
      have hw2 : IntKind.i64.wrap (bl * p + pg) = (k : Int) := by rw [hk, IntKind.wrap_i64]; omega
      have hw3 : IntKind.i64.wrap ((dtP s : Int) + (spP s : Int)) = (lgP s : Int) := by rw [IntKind.wrap_i64]; omega
      have hw4 : IntKind.i64.wrap ((k : Int) * (lgP s : Int)) = (at1 : Int) := by rw [← Int.natCast_mul, ← hat1, IntKind.wrap_i64]; omega
      have hw5 : IntKind.i64.wrap ((at1 : Int) + (dtP s : Int)) = (at2 : Int) := by rw [IntKind.wrap_i64]; omega
      have hw6 : IntKind.i64.wrap ((at2 : Int) + (spP s : Int)) = (at3 : Int) := by rw [IntKind.wrap_i64]; omega
      have s1 := fun wx => sl_pt ad n c at1 (dtP s) (at1 : Int) (at2 : Int) rfl (by rw [hat2]) (by omega) (by omega) wx
      have s2 := fun wx => sl_pt ad n c at2 (spP s) (at2 : Int) (at3 : Int) rfl (by rw [hat3]) (by omega) (by omega) wx
      have hl1 : (ptI l at1 (dtP s)).length = dtP s := ptI_len _ _ _ (by omega)
      have hl2 : (ptI l at2 (spP s)).length = spP s := ptI_len _ _ _ (by omega)
      have HL1 := Lib.hid hl1
      have HL2 := Lib.hid hl2
      have q1' := fun wx (hx : Rd wx (some ad) (ints l)) => Clone_any (some (ad.add at1)) (dtP s) (c - at1) _ wx hl1 (rd_ptI at1 (dtP s) hx) (by omega)
      have q2' := fun wx (hx : Rd wx (some ad) (ints l)) => Clone_any (some (ad.add at2)) (spP s) (c - at2) _ wx hl2 (rd_ptI at2 (spP s) hx) (by omega)
      have hsz : ∀ wx, Calls Try.prog 20 #[.agg #[.int .i64 b, .int .i64 p, .int .i64 s]] wx fun e w' => e = .returned (.tuple #[.int .i64 (dtP s : Int), .int .i64 (spP s : Int), .int .i64 0]) ∧ Below wx.heap.size wx w' := fun wx => by
        refine image_sizes.calls b p s _ _ _ wx ?_
        obtain ⟨r1, t1, t2, t3⟩ := shape_i b p s
        have t4 : r1 = true := by
          unfold chip_shape.f at t1
          rw [if_pos c1, if_pos c2', if_pos c3, if_pos c4, if_pos c5, if_pos c6] at t1
          have := Option.some.inj t1
          rw [← this]
          exact decide_eq_true (by unfold wrap64; omega)
        unfold image_sizes.f chip_Spare.f
        rw [t1, t4, Option.bind_some, if_pos rfl, Option.bind_some, show wrap64 (s * 256) = (dtP s : Int) by unfold wrap64; omega, show wrap64 (54 + wrap64 (3 * s)) = (spP s : Int) by rw [show wrap64 (3 * s) = 3 * s by unfold wrap64; omega]; unfold wrap64; omega]
      generalize ptI l at2 (spP s) = SP at *
      generalize ptI l at1 (dtP s) = DT at *
      clear hl1 hl2 hll hsum hlg hsp1 hd1 hk1 hk2 hk3 hk hout HCK c1 c2' c3 c4 c5 c6 c7 c8 c9 c10 HL hat1 hat2 hat3
      generalize lgP s = L at *
      generalize dtP s = D at *
      generalize spP s = S at *
      go_wp2_with fail
      with_reducible refine (hsz _).mono ?_
      rintro e w4 ⟨rfl, b4⟩
      clear hsz g0 g1 g2 g3 g4 p0 p1 z0 z1 f0 f1
      replace kg := kg.frm (ex := fun _ => False) (Frm.of_below b4) id
      replace kp := kp.frm (ex := fun _ => False) (Frm.of_below b4) id
      replace kz := kz.frm (ex := fun _ => False) (Frm.of_below b4) id
      replace hB := hB.trans (b4.mono hB.size)
      replace hr2 := hr2.below b4
      obtain ⟨g0, g1, g2, g3, g4⟩ := cells5 kg
      have p0 : w4.cell? ⟨G + 1, 0, none⟩ = some (.int .i64 bl) := kp.cell 0
      have p1 : w4.cell? ⟨G + 1, 1, none⟩ = some (.int .i64 pg) := kp.cell 1
      clear b4
      go_upto_region 8 with fail
      have hCC := fun wx (hb : Below w4.heap.size w4 wx) => cells5 (kg.frm (ex := fun _ => False) (Frm.of_below hb) id)
      have hRR := fun wx (hb : Below w4.heap.size w4 wx) => hr2.below hb
      have hZZ := fun wx (hb : Below w4.heap.size w4 wx) => kz.frm (ex := fun _ => False) (Frm.of_below hb) id
      have HCC := Lib.hid hCC
      have hKG := fun wx (hb : Below w4.heap.size w4 wx) => kg.frm (ex := fun _ => False) (Frm.of_below hb) id
      have HKG := Lib.hid hKG
      have HRR := Lib.hid hRR
      have HZZ := Lib.hid hZZ
      have HBB := Lib.hid hB
      have ns := kz.lt
      have b0 : Below w4.heap.size w4 w4.drew := bel_drew (Below.refl _ _)
      clear hKG hCC hRR hZZ hB kg kp kz hr2 g0 g1 g2 g3 g4 p0 p1
      go_region_held3 (fun wx => wx.cell? ⟨G, 0, none⟩ = some (.int .i64 b) ∧ wx.cell? ⟨G, 1, none⟩ = some (.int .i64 p) ∧ wx.cell? ⟨G, 2, none⟩ = some (.int .i64 s) ∧ wx.cell? ⟨G, 3, none⟩ = some (.slice (some ad) n c) ∧ wx.cell? ⟨G, 4, none⟩ = some (.slice A2 n2 c2)) (first | exact HCC.out _ (by assumption) | exact HKF.out) (first
        | (go_at_call 25; (with_reducible refine (q1' _ (HRR.out _ b0)).mono ?_); rintro e w5 ⟨A6, c6, rfl, hc6, f6, r6, b4⟩; have f6' := (fun q hq => Nat.le_trans b0.size (f6 q hq)); replace b0 := b0.trans (b4.mono b0.size); clear b4 f6; dsimp only)
        | (go_at_call 25; (with_reducible refine (q2' _ (HRR.out _ b0)).mono ?_); rintro e w6 ⟨A7, c7, rfl, hc7, f7, r7, b4⟩; have f7' := (fun q hq => Nat.le_trans b0.size (f7 q hq)); replace b0 := b0.trans (b4.mono b0.size); replace r6 := r6.below b4; have kz := HZZ.out _ b0; have z0 : w6.cell? ⟨G + 2, 0, none⟩ = some (.slice none 0 0) := kz.cell 0; have z1 : w6.cell? ⟨G + 2, 1, none⟩ = some (.slice none 0 0) := kz.cell 1; have f0 := kz.frozen 0; have f1 := kz.frozen 1; have kg := HKG.out _ b0; have HS2 := Lib.hid (set2 (.slice A6 D c6) (.slice A7 S c7) kz (HBB.out.trans (b0.mono HBB.out.size)) (by have := HG.out; omega)); have HKF := Lib.hid (cells5 (kg.frm HS2.out.2.2 (by omega))); clear b4 f7 kg; dsimp only))
      all_goals
        go_wp2
        obtain ⟨kf, bf, ff⟩ := HS2.out
        refine bodyPost_ret (results_ct' rfl _ _ (G + 2) 40 #[.slice A6 D c6, .slice A7 S c7] (0, 0) _ rfl kf Try.underlying40 rfl (by kernel_rfl)) rfl ?_
        refine ⟨A6, c6, A7, c7, by rw [show (DT, SP, (0 : Int)).1.length = D from HL1.out, show (DT, SP, (0 : Int)).2.1.length = S from HL2.out]; rfl, by rw [show (DT, SP, (0 : Int)).1.length = D from HL1.out]; exact hc6, by rw [show (DT, SP, (0 : Int)).2.1.length = S from HL2.out]; exact hc7, r6.frm ff ?_, r7.frm ff ?_, bf⟩
        · intro ad e hq
          have h1 := f6' ad.block (by rw [e]; rfl)
          have h2 : ad.block = G + 2 := hq
          omega
        · intro ad e hq
          have h1 := f7' ad.block (by rw [e]; rfl)
          have h2 : ad.block = G + 2 := hq
          omega
  · have hpt : pageT r b p s l bl pg = ([], [], r) := by unfold pageT; rw [if_pos hr0]
    obtain rfl := HT.out.trans hpt
    clear hCK hpt HT
    go_wp2
    refine bodyPost_ret (results_ct' rfl _ _ (G + 2) 40 #[.slice none 0 0, .slice none 0 0] (0, 0) _ rfl (set2 (.slice none 0 0) (.slice none 0 0) kz hB (by have := HG.out; omega)).1 Try.underlying40 rfl (by kernel_rfl)) rfl ?_
    exact ⟨none, 0, none, 0, rfl, Nat.le_refl _, Nat.le_refl _, Rd.nil _ _, Rd.nil _ _, (set2 (.slice none 0 0) (.slice none 0 0) kz hB (by have := HG.out; omega)).2.1⟩
end Go.Proofs.Ytloamkbkcdhaiaa
