/- The law ImagePages: its walk. -/
import Derived.Test.YtloamkbkcdhaiaaIs
namespace Go.Proofs.Ytloamkbkcdhaiaa
open Go.RowKit Go.Proofs.Ytloamkbkcdhaiaa.PImageChecks Go.Proofs.YtloamkbkcdhaiaaW.PrintWords
set_option linter.unusedVariables false
set_option linter.unusedSimpArgs false
theorem ptI_le (l : List Int) (i d : Nat) : (ptI l i d).length ≤ l.length := by unfold ptI; rw [List.length_take, List.length_drop]; omega
theorem pageT_len (r b p s : Int) (l : List Int) (bl pg : Int) : (pageT r b p s l bl pg).1.length ≤ l.length ∧ (pageT r b p s l bl pg).2.1.length ≤ l.length := by
  unfold pageT
  split
  · exact ⟨Nat.zero_le _, Nat.zero_le _⟩
  · split
    · exact ⟨Nat.zero_le _, Nat.zero_le _⟩
    · exact ⟨ptI_le _ _ _, ptI_le _ _ _⟩
set_option maxRecDepth 100000 in
set_option maxHeartbeats 3200000 in
theorem pages_walk (b p s : Int) (A : Option Addr) (n c : Nat) (A2 : Option Addr) (n2 c2 : Nat) (l : List Int) (lb : List Bool) (bl pg : Int) (w : World) (hl : l.length = n) (hlb : lb.length = n2) (hr : Rd w A (ints l)) (hrb : Rd w A2 (bools lb)) (hm : n ≤ 140737488351232) (hm2 : n2 ≤ 140737488351232) (hc : n ≤ c) (hc2 : n2 ≤ c2) :
    Calls Try.prog 4 #[.agg #[.int .i64 b, .int .i64 p, .int .i64 s, .slice A n c, .slice A2 n2 c2], .agg #[.int .i64 bl, .int .i64 pg]] w fun e w' => e = .returned (.bool true) ∧ Below w.heap.size w w' := by
  obtain ⟨w2, hw2⟩ : ∃ w2, w2 = (w.alloc (.cells #[.int .i64 b, .int .i64 p, .int .i64 s, .slice A n c, .slice A2 n2 c2] 27)).alloc (.cells #[.int .i64 bl, .int .i64 pg] 38) := ⟨_, rfl⟩
  have hB : Below w.heap.size w w2 := by rw [hw2]; exact ((Below.refl _ w).alloc (Nat.le_refl _) _).alloc (by simp) _
  have kg : Blk w2 w.heap.size 27 [.int .i64 b, .int .i64 p, .int .i64 s, .slice A n c, .slice A2 n2 c2] := by rw [hw2]; exact (Blk.new w _ [.int .i64 b, .int .i64 p, .int .i64 s, .slice A n c, .slice A2 n2 c2]).alloc _
  have kp : Blk w2 (w.heap.size + 1) 38 [.int .i64 bl, .int .i64 pg] := by
    have h := Blk.new (w.alloc (.cells #[.int .i64 b, .int .i64 p, .int .i64 s, .slice A n c, .slice A2 n2 c2] 27)) 38 [.int .i64 bl, .int .i64 pg]
    rw [World.size_alloc] at h
    rw [hw2]; exact h
  obtain ⟨r, hC1, hC2⟩ := check_i b p s l lb
  obtain ⟨tl1, tl2⟩ := pageT_len r b p s l bl pg
  have hRP := fun wx h1 h2 => rPage_any b p s A n c A2 n2 c2 l lb bl pg r wx hl hlb h1 h2 hm hm2 hc hc2 hC2
  have hIP := fun wx F cF M cM h1 h2 h3 h4 => Page_any b p s F n cF M n2 cM l lb bl pg r wx hl hlb h1 h2 hm hm2 h3 h4 hC2 hC1
  have HRP := Lib.hid hRP
  have HIP := Lib.hid hIP
  generalize pageT r b p s l bl pg = TT at *
  obtain ⟨n5, hn5⟩ : ∃ x, x = TT.1.length := ⟨_, rfl⟩
  obtain ⟨n6, hn6⟩ : ∃ x, x = TT.2.1.length := ⟨_, rfl⟩
  have HN5 := Lib.hid hn5
  have HN6 := Lib.hid hn6
  have hn5m : n5 ≤ 140737488351232 := by omega
  have hn6m : n6 ≤ 140737488351232 := by omega
  have HL := Lib.hid hl
  have HLB := Lib.hid hlb
  obtain ⟨G, hG⟩ : ∃ G, G = w.heap.size := ⟨_, rfl⟩
  rw [← hG] at kg kp
  have HR := Lib.hid hr
  have HRB := Lib.hid hrb
  obtain ⟨g0, g1, g2, g3, g4⟩ := cells5 kg
  have p0 : w2.cell? ⟨G + 1, 0, none⟩ = some (.int .i64 bl) := kp.cell 0
  have p1 : w2.cell? ⟨G + 1, 1, none⟩ = some (.int .i64 pg) := kp.cell 1
  clear hr hrb hl hlb hC1 hC2 hRP hIP tl1 tl2 hn5 hn6
  go_enter Try.func4, Try.ntmps4
  go_wp2_with fail
  rw [← hw2, ← hG]
  clear hw2 hG
  with_reducible refine (HRP.out _ (HR.out.below hB) (HRB.out.below hB)).mono ?_
  rintro e w3 ⟨A5, c5, A6, c6, rfl, hc5, hc6, r5, r6, b3⟩
  rw [← HN5.out] at hc5
  rw [← HN6.out] at hc6
  rw [← HN5.out, ← HN6.out]
  clear g0 g1 g2 g3 g4 p0 p1
  replace kg := kg.frm (ex := fun _ => False) (Frm.of_below b3) id
  replace kp := kp.frm (ex := fun _ => False) (Frm.of_below b3) id
  replace hB := hB.trans (b3.mono hB.size)
  clear b3
  go_upto_region 2 with fail
  obtain ⟨w4, hw4⟩ : ∃ x, x = w3.alloc (.cells #[.slice A5 n5 c5, .slice A6 n6 c6] 40) := ⟨_, rfl⟩
  have b4 : Below w3.heap.size w3 w4 := by rw [hw4]; exact (Below.refl _ _).alloc (Nat.le_refl _) _
  have kq : Blk w4 w3.heap.size 40 [.slice A5 n5 c5, .slice A6 n6 c6] := by rw [hw4]; exact Blk.new w3 _ [.slice A5 n5 c5, .slice A6 n6 c6]
  rw [← hw4]
  obtain ⟨Q, hQ⟩ : ∃ Q, Q = w3.heap.size := ⟨_, rfl⟩
  rw [← hQ] at kq ⊢
  replace kg := kg.frm (ex := fun _ => False) (Frm.of_below b4) id
  replace kp := kp.frm (ex := fun _ => False) (Frm.of_below b4) id
  replace r5 := r5.below b4
  replace r6 := r6.below b4
  replace hB := hB.trans (b4.mono hB.size)
  clear b4 hw4 hQ
  obtain ⟨g0, g1, g2, g3, g4⟩ := cells5 kg
  go_wp2_with fail
  with_reducible refine (lent_any b p s A n c A2 n2 c2 l lb w4 HL.out HLB.out (HR.out.below hB) (HRB.out.below hB) hm hm2).mono ?_
  rintro e w5 ⟨F, cF, M, cM, rfl, hF, hcF, hM, hcM, b5⟩
  clear g0 g1 g2 g3 g4
  replace kg := kg.frm (ex := fun _ => False) (Frm.of_below b5) id
  replace kp := kp.frm (ex := fun _ => False) (Frm.of_below b5) id
  replace kq := kq.frm (ex := fun _ => False) (Frm.of_below b5) id
  replace r5 := r5.below b5
  replace r6 := r6.below b5
  replace hB := hB.trans (b5.mono hB.size)
  clear b5
  go_upto_region 3 with fail
  obtain ⟨w6, hw6⟩ : ∃ x, x = w5.alloc (.cells #[.int .i64 b, .int .i64 p, .int .i64 s, .slice F n cF, .slice M n2 cM] 27) := ⟨_, rfl⟩
  have b6 : Below w5.heap.size w5 w6 := by rw [hw6]; exact (Below.refl _ _).alloc (Nat.le_refl _) _
  have ki : Blk w6 w5.heap.size 27 [.int .i64 b, .int .i64 p, .int .i64 s, .slice F n cF, .slice M n2 cM] := by rw [hw6]; exact Blk.new w5 _ [.int .i64 b, .int .i64 p, .int .i64 s, .slice F n cF, .slice M n2 cM]
  rw [← hw6]
  obtain ⟨I, hI⟩ : ∃ Q, Q = w5.heap.size := ⟨_, rfl⟩
  rw [← hI] at ki ⊢
  replace kg := kg.frm (ex := fun _ => False) (Frm.of_below b6) id
  replace kp := kp.frm (ex := fun _ => False) (Frm.of_below b6) id
  replace kq := kq.frm (ex := fun _ => False) (Frm.of_below b6) id
  replace r5 := r5.below b6
  replace r6 := r6.below b6
  replace hF := hF.below b6
  replace hM := hM.below b6
  replace hB := hB.trans (b6.mono hB.size)
  clear b6 hw6 hI
  obtain ⟨g0, g1, g2, g3, g4⟩ := cells5 ki
  have p0 : w6.cell? ⟨G + 1, 0, none⟩ = some (.int .i64 bl) := kp.cell 0
  have p1 : w6.cell? ⟨G + 1, 1, none⟩ = some (.int .i64 pg) := kp.cell 1
  have hFl : Rd w6 F (ints l) := by rw [ints_app] at hF; exact hF.left
  have hMl : Rd w6 M (bools lb) := by rw [bools_app] at hM; exact hM.left
  go_wp2_with fail
  with_reducible refine (HIP.out _ _ _ _ _ hFl hMl (by omega) (by omega)).mono ?_
  rintro e w7 ⟨A7, c7, A8, c8, rfl, hc7, hc8, r7, r8, b7⟩
  rw [← HN5.out] at hc7
  rw [← HN6.out] at hc8
  rw [← HN5.out, ← HN6.out]
  clear g0 g1 g2 g3 g4 p0 p1 hFl hMl ki kp
  replace kg := kg.frm (ex := fun _ => False) (Frm.of_below b7) id
  replace kq := kq.frm (ex := fun _ => False) (Frm.of_below b7) id
  replace r5 := r5.below b7
  replace r6 := r6.below b7
  replace hF := hF.below b7
  replace hM := hM.below b7
  replace hB := hB.trans (b7.mono hB.size)
  clear b7
  go_upto_region 4 with fail
  obtain ⟨w8, hw8⟩ : ∃ x, x = w7.alloc (.cells #[.slice A7 n5 c7, .slice A8 n6 c8] 40) := ⟨_, rfl⟩
  have b8 : Below w7.heap.size w7 w8 := by rw [hw8]; exact (Below.refl _ _).alloc (Nat.le_refl _) _
  have kz : Blk w8 w7.heap.size 40 [.slice A7 n5 c7, .slice A8 n6 c8] := by rw [hw8]; exact Blk.new w7 _ [.slice A7 n5 c7, .slice A8 n6 c8]
  rw [← hw8]
  obtain ⟨Z, hZ⟩ : ∃ Q, Q = w7.heap.size := ⟨_, rfl⟩
  rw [← hZ] at kz ⊢
  replace kg := kg.frm (ex := fun _ => False) (Frm.of_below b8) id
  replace kq := kq.frm (ex := fun _ => False) (Frm.of_below b8) id
  replace r5 := r5.below b8
  replace r6 := r6.below b8
  replace r7 := r7.below b8
  replace r8 := r8.below b8
  replace hF := hF.below b8
  replace hM := hM.below b8
  replace hB := hB.trans (b8.mono hB.size)
  clear b8 hw8 hZ
  have z0 : w8.cell? ⟨Z, 0, none⟩ = some (.slice A7 n5 c7) := kz.cell 0
  have q0 : w8.cell? ⟨Q, 0, none⟩ = some (.slice A5 n5 c5) := kq.cell 0
  go_wp2_with (go_at_call 8; (with_reducible refine (no_any _ _).mono ?_); rintro e w' ⟨rfl, rfl⟩)
  with_reducible refine (same_true A7 A5 n5 c7 c5 TT.1 _ HN5.out.symm r7 r5 hc7 hc5 hn5m).mono ?_
  rintro e w9 ⟨rfl, hq⟩
  have b9 := bel_drawn hq
  clear z0 q0 r7 r5 hq
  replace kg := kg.frm (ex := fun _ => False) (Frm.of_below b9) id
  replace kq := kq.frm (ex := fun _ => False) (Frm.of_below b9) id
  replace kz := kz.frm (ex := fun _ => False) (Frm.of_below b9) id
  replace r6 := r6.below b9
  replace r8 := r8.below b9
  replace hF := hF.below b9
  replace hM := hM.below b9
  replace hB := hB.trans (b9.mono hB.size)
  clear b9
  have z0 : w9.cell? ⟨Z, 1, none⟩ = some (.slice A8 n6 c8) := kz.cell 1
  have q0 : w9.cell? ⟨Q, 1, none⟩ = some (.slice A6 n6 c6) := kq.cell 1
  go_wp2_with fail
  with_reducible refine (same_true A8 A6 n6 c8 c6 TT.2.1 _ HN6.out.symm r8 r6 hc8 hc6 hn6m).mono ?_
  rintro e w10 ⟨rfl, hq⟩
  have b9 := bel_drawn hq
  clear z0 q0 r8 r6 hq kq kz
  replace kg := kg.frm (ex := fun _ => False) (Frm.of_below b9) id
  replace hF := hF.below b9
  replace hM := hM.below b9
  replace hB := hB.trans (b9.mono hB.size)
  clear b9
  have g3 : w10.cell? ⟨G, 3, none⟩ = some (.slice A n c) := (cells5 kg).2.2.2.1
  go_wp2_with fail
  with_reducible refine (kept_any F A n cF c l _ HL.out hF (HR.out.below hB) hcF hc hm).mono ?_
  rintro e w11 ⟨rfl, hq⟩
  have b9 := bel_drawn hq
  clear g3 hF hq
  replace kg := kg.frm (ex := fun _ => False) (Frm.of_below b9) id
  replace hM := hM.below b9
  replace hB := hB.trans (b9.mono hB.size)
  clear b9
  have g4 : w11.cell? ⟨G, 4, none⟩ = some (.slice A2 n2 c2) := (cells5 kg).2.2.2.2
  go_wp2_with fail
  with_reducible refine (held_any M A2 n2 cM c2 lb _ HLB.out hM (HRB.out.below hB) hm2).mono ?_
  rintro e w12 ⟨rfl, hq⟩
  have b9 := bel_drawn hq
  replace hB := hB.trans (b9.mono hB.size)
  clear b9 g4 kg hM hq
  go_wp2
  go_ret
  exact ⟨rfl, hB⟩
end Go.Proofs.Ytloamkbkcdhaiaa
