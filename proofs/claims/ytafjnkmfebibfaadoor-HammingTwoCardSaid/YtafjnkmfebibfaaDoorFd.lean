/- The law HammingTwo: its walk. Printed by gen_two.py. -/
import Derived.Test.YtafjnkmfebibfaaDoorFo
import Derived.Test.YtafjnkmfebibfaaDoorFv
namespace Go.Proofs.YtafjnkmfebibfaaDoor
open Go.RowKit
set_option linter.unusedVariables false
set_option linter.unusedSimpArgs false
theorem turn_off (l : List UInt8) (i j : Nat) (hl : l.length = 256) (hi : i < 2072) (hj : j < 2072) (hne : i ≠ j) : badB (turnG (turnG (sumN l) i) j ^^^ sumN (turnL (turnL l i) j)) = true := by
  have x1 : ∀ a b : Nat, a ^^^ (a ^^^ b) = b := fun a b => by rw [← Nat.xor_assoc, Nat.xor_self, Nat.zero_xor]
  by_cases h1 : i < 2048
  · rw [show turnG (sumN l) i = sumN l from if_pos h1, show turnL l i = flipB l i from if_pos h1]
    have hl1 : (flipB l i).length = 256 := by rw [flipB_len]; exact hl
    by_cases h2 : j < 2048
    · rw [show turnG (sumN l) j = sumN l from if_pos h2, show turnL (flipB l i) j = flipB (flipB l i) j from if_pos h2, sumN_flip _ j hl1 h2, sumN_flip l i hl h1, Nat.xor_assoc, x1]
      exact E_two i j h1 h2 hne
    · rw [show turnG (sumN l) j = sumN l ^^^ 2 ^ (j - 2048) from if_neg h2, show turnL (flipB l i) j = flipB l i from if_neg h2, sumN_flip l i hl h1, Nat.xor_assoc, ← Nat.xor_assoc (2 ^ (j - 2048)), Nat.xor_comm (2 ^ (j - 2048)), Nat.xor_assoc, x1, Nat.xor_comm]
      exact mix_tab ⟨i, h1⟩ ⟨j - 2048, by omega⟩
  · rw [show turnG (sumN l) i = sumN l ^^^ 2 ^ (i - 2048) from if_neg h1, show turnL l i = l from if_neg h1]
    by_cases h2 : j < 2048
    · rw [show turnG (sumN l ^^^ 2 ^ (i - 2048)) j = sumN l ^^^ 2 ^ (i - 2048) from if_pos h2, show turnL l j = flipB l j from if_pos h2, sumN_flip l j hl h2, Nat.xor_assoc, ← Nat.xor_assoc (2 ^ (i - 2048)), Nat.xor_comm (2 ^ (i - 2048)), Nat.xor_assoc, x1, Nat.xor_comm]
      exact mix_tab ⟨j, h2⟩ ⟨i - 2048, by omega⟩
    · rw [show turnG (sumN l ^^^ 2 ^ (i - 2048)) j = sumN l ^^^ 2 ^ (i - 2048) ^^^ 2 ^ (j - 2048) from if_neg h2, show turnL l j = l from if_neg h2, Nat.xor_comm, Nat.xor_assoc, x1]
      exact two_tab ⟨i - 2048, by omega⟩ ⟨j - 2048, by omega⟩ (by show i - 2048 ≠ j - 2048; omega)
theorem turn_twice (l : List UInt8) (i : Nat) (hl : l.length = 256) : turnL (turnL l i) i = l ∧ turnG (turnG (sumN l) i) i = sumN l := by
  by_cases h1 : i < 2048
  · rw [show turnG (sumN l) i = sumN l from if_pos h1, show turnL l i = flipB l i from if_pos h1, show turnG (sumN l) i = sumN l from if_pos h1, show turnL (flipB l i) i = flipB (flipB l i) i from if_pos h1]
    exact ⟨flip_twice l i (by omega), rfl⟩
  · rw [show turnG (sumN l) i = sumN l ^^^ 2 ^ (i - 2048) from if_neg h1, show turnL l i = l from if_neg h1, show turnL l i = l from if_neg h1]
    refine ⟨rfl, ?_⟩
    unfold turnG
    rw [if_neg h1, Nat.xor_assoc, Nat.xor_self, Nat.xor_zero]
theorem fix_two (l : List UInt8) (i j : Nat) (hl : l.length = 256) (hi : i < 2072) (hj : j < 2072) : ∃ l' g' k e, FixIs (turnL (turnL l i) j) (turnG (turnG (sumN l) i) j) l' g' k e ∧ (i = j → l' = l ∧ g' = sumN l ∧ k = -1 ∧ e = 0) ∧ (i ≠ j → l' = [] ∧ g' = 0 ∧ k = 0 ∧ e = 21) := by
  by_cases h : i = j
  · subst h
    obtain ⟨h1, h2⟩ := turn_twice l i hl
    rw [h1, h2]
    exact ⟨l, sumN l, -1, 0, fix_same l, fun _ => ⟨rfl, rfl, rfl, rfl⟩, fun h => absurd rfl h⟩
  · exact ⟨[], 0, 0, 21, .inr (.inr (.inr ⟨turn_off l i j hl hi hj h, rfl, rfl, rfl, rfl⟩)), fun h' => absurd h' h, fun _ => ⟨rfl, rfl, rfl, rfl⟩⟩
set_option maxRecDepth 100000 in
set_option maxHeartbeats 6400000 in
theorem two_walk (w : World) (A0 : Option Addr) (n0 c0 : Nat) (l : List UInt8) (hl : l.length = n0) (hr0 : Rd w A0 (u8s l)) (hm : n0 ≤ 140737488351232) (a1 : Int) (ha1 : -9223372036854775808 ≤ a1) (ha2 : a1 ≤ 9223372036854775807) (a2 : Int) (hb1 : -9223372036854775808 ≤ a2) (hb2 : a2 ≤ 9223372036854775807) (hT : Tab w) :
    Calls Tryd.prog 5 #[.slice A0 n0 c0, .int .i64 a1, .int .i64 a2] w fun e w' => e = .returned (.bool true) ∧ Below w.heap.size w w' := by
  have HT := Lib.hid hT
  clear hT
  go_enter Tryd.func5, Tryd.ntmps5
  go_wp2_with fail
  with_reducible refine (whole_any A0 n0 c0 l _ hl hr0 hm).mono ?_
  rintro e w1 ⟨v1, lw, sp1, rfl, hlw, ho1, _, b1⟩
  clear hl hr0 hm
  obtain ⟨n, hn⟩ : ∃ n, n = 256 := ⟨_, rfl⟩
  rw [← hn] at ho1 hlw
  obtain ⟨A, cap, rfl, hcap, hr⟩ := ho1.rd
  have HL := Lib.hid hlw
  have HN := Lib.hid hn
  have hn2 : n ≤ 1000 := by omega
  have hn3 : 200 ≤ n := by omega
  obtain ⟨x0, x1, x2, hx⟩ := tri_eq (sumN lw)
  have hS1 := fun A' c' wx hr' => Sum256 A' n c' lw x0 x1 x2 wx hlw hn hr' hx
  have HX := Lib.hid hx
  clear ho1 hlw hn hx hcap
  go_wp2_with fail
  with_reducible refine (marked_any A n cap lw _ HL.out hr (by omega)).mono ?_
  rintro e w2 ⟨g2, cp2, sp2, rfl, hg2, hcp2, hgs2, b2⟩
  replace hr := hr.below b2
  replace b1 := b1.trans (b2.mono b1.size)
  clear b2 hcp2 hgs2
  go_wp2_with fail
  with_reducible refine (hS1 _ _ _ (Rd.of_blk (mks_ins hg2))).mono ?_
  rintro e w3 ⟨rfl, b3⟩
  replace hr := hr.below b3
  replace b1 := b1.trans (b3.mono b1.size)
  clear b3 hS1 hg2
  go_wp2_with fail
  with_reducible refine (bit_any a1 ha1 ha2 _).mono ?_
  rintro e w' ⟨i, hi, rfl, rfl⟩
  go_wp2_with fail
  with_reducible refine (bit_any a2 hb1 hb2 _).mono ?_
  rintro e w' ⟨j, hj, rfl, rfl⟩
  obtain ⟨G, hG⟩ : ∃ G, G = w3.heap.size := ⟨_, rfl⟩
  obtain ⟨w4, hw4⟩ : ∃ w4, w4 = w3.alloc (.cells #[.int .u8 x0, .int .u8 x1, .int .u8 x2] 23) := ⟨_, rfl⟩
  rw [← hw4, ← hG]
  have k3 : Blk w4 G 23 [.int .u8 x0, .int .u8 x1, .int .u8 x2] := by rw [hw4, hG]; exact Blk.new w3 _ _
  have r4 : Rd w4 A (u8s lw) := by rw [hw4]; exact hr.alloc _
  have b4 : Below w.heap.size w w4 := by rw [hw4]; exact b1.alloc b1.size _
  clear hw4 hG hr b1 ha1 ha2 hb1 hb2
  have hlt1 : turnG (sumN lw) i < 16777216 := turnG_lt _ _ (sumN_lt lw) hi
  have hlt2 : turnG (turnG (sumN lw) i) j < 16777216 := turnG_lt _ _ hlt1 hj
  have htx : tri (sumN lw) = .agg #[.int .u8 x0, .int .u8 x1, .int .u8 x2] := by unfold tri; rw [HX.out]
  obtain ⟨y0, y1, y2, hy⟩ := tri_eq (turnG (sumN lw) i)
  have hty : tri (turnG (sumN lw) i) = .agg #[.int .u8 y0, .int .u8 y1, .int .u8 y2] := by unfold tri; rw [hy]
  obtain ⟨u0, u1, u2, hu⟩ := tri_eq (turnG (turnG (sumN lw) i) j)
  have htu : tri (turnG (turnG (sumN lw) i) j) = .agg #[.int .u8 u0, .int .u8 u1, .int .u8 u2] := by unfold tri; rw [hu]
  have hl1 : (turnL lw i).length = n := by rw [turnL_len, HL.out]
  have hl2 : (turnL (turnL lw i) j).length = n := by rw [turnL_len, hl1]
  have hTu1 := fun wx hrx => turned_any2 A n cap lw (sumN lw) i wx HL.out HN.out hrx (sumN_lt lw) hi
  have hTu2 := fun A' c' wx hrx => turned_any2 A' n c' (turnL lw i) (turnG (sumN lw) i) j wx hl1 HN.out hrx hlt1 hj
  rw [htx, hty] at hTu1
  rw [hty, htu] at hTu2
  obtain ⟨l', g', k, e', hFx, hE1, hE2⟩ := fix_two lw i j (by rw [HL.out, HN.out]) hi hj
  obtain ⟨p0, p1, p2, hp⟩ := tri_eq g'
  have hF := fun A' c' wx hr' hT' => Fix256 A' n c' (turnL (turnL lw i) j) (turnG (turnG (sumN lw) i) j) l' g' k e' u0 u1 u2 p0 p1 p2 wx hl2 HN.out hr' hlt2 hT' hFx hu hp
  have HL1 := Lib.hid hl1
  have HL2 := Lib.hid hl2
  have HE1 := Lib.hid hE1
  have HE2 := Lib.hid hE2
  have HP := Lib.hid hp
  clear hl1 hl2 hy hu htx hty htu hFx hE1 hE2 hp hlt1 hlt2
  generalize turnL (turnL lw i) j = l2 at *
  generalize turnL lw i = l1 at *
  obtain ⟨d0, d1, d2⟩ := cells3 k3
  go_wp2_with fail
  with_reducible refine (hTu1 _ r4).mono ?_
  rintro e w8 ⟨A8, c8, rfl, r8, q8, hA8⟩
  clear d0 d1 d2 hTu1
  have hA8' : ∀ ad, A8 = some ad → ad.block < w8.heap.size := fun ad e => by
    obtain ⟨ad2, e2, hb⟩ := r8.blocks (by intro h; have := congrArg List.length h; rw [u8s_length, HL1.out] at this; simp at this; omega)
    rw [e] at e2
    cases e2
    exact hb
  obtain ⟨w9, hw9⟩ : ∃ w9, w9 = w8.alloc (.cells #[.int .u8 y0, .int .u8 y1, .int .u8 y2] 23) := ⟨_, rfl⟩
  have k9 : Blk w9 w8.heap.size 23 [.int .u8 y0, .int .u8 y1, .int .u8 y2] := by rw [hw9]; exact Blk.new w8 _ _
  have q9 : Below w4.heap.size w4 w9 := by rw [hw9]; exact q8.alloc q8.size _
  have r9 : Rd w9 A8 (u8s l1) := by rw [hw9]; exact r8.alloc _
  have hg13 : w4.heap.size ≤ w8.heap.size := q8.size
  obtain ⟨d0, d1, d2⟩ := cells3 k9
  rw [hw9] at d0 d1 d2
  go_wp2_with fail
  rw [← hw9]
  obtain ⟨G, hG⟩ : ∃ G, G = w8.heap.size := ⟨_, rfl⟩
  rw [← hG] at k9 hA8' hg13 ⊢
  clear hw9 hG d0 d1 d2 r8 q8
  with_reducible refine (hTu2 _ _ _ r9).mono ?_
  rintro e w10 ⟨A10, c10, rfl, r10, q10, hA10⟩
  have hAne : ∀ ad, A10 = some ad → ad.block ≠ G := fun ad e => by
    rcases hA10 with rfl | h
    · have := hA8' ad e; omega
    · have := h ad e; have := k9.lt; omega
  have k10 := k9.bel q10
  have q11 := q9.trans (q10.mono q9.size)
  obtain ⟨t0, t1, t2⟩ := cells3 k10
  have z0 := k10.frozen 0
  have z1 := k10.frozen 1
  have z2 := k10.frozen 2
  clear hTu2 k9 q9 r9 q10 hA10 hA8 hA8'
  go_wp2
  obtain ⟨kc, qc, _⟩ := set3 (W := w4) (n := 0) (v := .slice none 0 0) (xs := []) (sp := []) u0 u1 u2 k10 q11 hg13 (.inl ⟨rfl, rfl, rfl, rfl⟩) (fun k hk => by cases hk)
  have rc : Rd (((w10.setCell ⟨G, 0, none⟩ (.int .u8 u0)).setCell ⟨G, 1, none⟩ (.int .u8 u1)).setCell ⟨G, 2, none⟩ (.int .u8 u2)) A10 (u8s l2) := r10.frm (ex := fun q => q = G) ((((Frm.refl (fun q => q = G) w10).setCell (p := ⟨G, 0, none⟩) (fun _ => rfl) _).setCell (p := ⟨G, 1, none⟩) (fun _ => rfl) _).setCell (p := ⟨G, 2, none⟩) (fun _ => rfl) _) hAne
  obtain ⟨wc, hwc⟩ : ∃ wc, wc = (((w10.setCell ⟨G, 0, none⟩ (.int .u8 u0)).setCell ⟨G, 1, none⟩ (.int .u8 u1)).setCell ⟨G, 2, none⟩ (.int .u8 u2)) := ⟨_, rfl⟩
  rw [← hwc] at kc qc rc ⊢
  have rA := r4.below qc
  have kS := k3.bel qc
  have bc := b4.trans (qc.mono b4.size)
  clear hwc hAne k10 q11 t0 t1 t2 z0 z1 z2 r10 hg13 qc r4 k3 b4
  have hGl := kc.lt
  have kd' : Blk wc.drew G 23 [.int .u8 u0, .int .u8 u1, .int .u8 u2] := kc
  obtain ⟨d0, d1, d2⟩ := cells3 kc
  go_region_held3 (fun wx => wx.cell? ⟨G, 0, none⟩ = some (.int .u8 u0) ∧ wx.cell? ⟨G, 1, none⟩ = some (.int .u8 u1) ∧ wx.cell? ⟨G, 2, none⟩ = some (.int .u8 u2)) (first | exact cells3 (by assumption) | exact cells3 (Blk.alloc (by assumption) _) | exact cells3 (far3 _ _ _ (by assumption) (by assumption)) | go_keep) (first
    | (go_at_call 9; first
        | ((with_reducible refine (marked_any A10 n c10 l2 _ HL2.out rc.drew (by omega)).mono ?_); rintro e w5 ⟨g5, cp5, sp5, rfl, hg5, hcp5, hgs5, b5⟩; have q5 : Below wc.heap.size wc w5 := ⟨b5.os, b5.tape, b5.output, b5.size, b5.block⟩)
        | ((with_reducible refine (marked_any A10 n c10 l2 _ HL2.out (rc.alloc _).drew (by omega)).mono ?_); rintro e w5 ⟨g5, cp5, sp5, rfl, hg5, hcp5, hgs5, b5⟩; have q5 : Below wc.heap.size wc w5 := ((Below.refl _ wc).alloc (Nat.le_refl _) (.cells #[.int .u8 0, .int .u8 0, .int .u8 0] 23)).trans (Below.mono ⟨b5.os, b5.tape, b5.output, b5.size, b5.block⟩ (by simp)); have zb : Blk w5 wc.heap.size 23 [.int .u8 0, .int .u8 0, .int .u8 0] := ((Blk.new wc 23 [.int .u8 0, .int .u8 0, .int .u8 0]).drew).bel b5)
       have k5 := kc.bel q5; clear b5; dsimp only)
    | (go_at_call 10; first
        | ((with_reducible refine (hF _ _ _ (Rd.of_blk (mks_ins hg5)) (HT.out.below (bc.trans (q5.mono bc.size)))).mono ?_); rintro e w6 ⟨v6, sp6, rfl, o6, f6, b6⟩; have q6 : Below wc.heap.size wc w6 := q5.trans (b6.mono q5.size); have hv6 : ∀ k, v6.ownBlock = some k → w5.heap.size ≤ k := f6; (try (have zb6 := zb.bel b6; have hne6 : G ≠ wc.heap.size := (by omega))))
        | ((with_reducible refine (hF _ _ _ ((Rd.of_blk (mks_ins hg5)).alloc _) (HT.out.below ((bc.trans (q5.mono bc.size)).alloc (Nat.le_trans bc.size q5.size) _))).mono ?_); rintro e w6 ⟨v6, sp6, rfl, o6, f6, b6⟩; have q6 : Below wc.heap.size wc w6 := (q5.alloc q5.size _).trans (b6.mono (by have := q5.size; simp at this ⊢; omega)); have hv6 : ∀ k, v6.ownBlock = some k → w5.heap.size + 1 ≤ k := (fun k hk => (by have := f6 k hk; simpa using this)); have zb6 : Blk w6 w5.heap.size 23 [.int .u8 0, .int .u8 0, .int .u8 0] := (Blk.new w5 23 [.int .u8 0, .int .u8 0, .int .u8 0]).bel b6; have hne6 : G ≠ w5.heap.size := (by have := q5.size; omega))
       have k6 := kc.bel q6; (try (obtain ⟨t0, t1, t2⟩ := cells3 zb6; have z0 := zb6.frozen 0; have z1 := zb6.frozen 1; have z2 := zb6.frozen 2)); dsimp only))
  all_goals
    (first
    | (obtain ⟨w7, hw7⟩ : ∃ w7, w7 = w6.alloc (.cells #[.int .u8 p0, .int .u8 p1, .int .u8 p2] 23) := ⟨_, rfl⟩
       rw [← hw7]
       have k79 : Blk w7 w6.heap.size 23 [.int .u8 p0, .int .u8 p1, .int .u8 p2] := by rw [hw7]; exact Blk.new w6 _ _
       have q7 : Below wc.heap.size wc w7 := by rw [hw7]; exact q6.alloc q6.size _
       have o7 : Own w7 5 1 v6 (l'.length) (u8s l') sp6 := by rw [hw7]; exact o6.alloc _
       have hne7 : wc.heap.size ≤ w6.heap.size := q6.size
       obtain ⟨G79, hG9⟩ : ∃ q, q = w6.heap.size := ⟨_, rfl⟩
       (try rw [← hG9] at k79 ⊢)
       replace hne7 : wc.heap.size ≤ G79 := by omega
       clear hG9 hw7)
    | (obtain ⟨w7, hw7⟩ : ∃ w7, w7 = (((w6.setCell ⟨w5.heap.size, 0, none⟩ (.int .u8 p0)).setCell ⟨w5.heap.size, 1, none⟩ (.int .u8 p1)).setCell ⟨w5.heap.size, 2, none⟩ (.int .u8 p2)) := ⟨_, rfl⟩
       rw [← hw7]
       obtain ⟨k79, q7, o7⟩ := set3 p0 p1 p2 zb6 q6 q5.size o6 (fun k hk => by have := hv6 k hk; omega)
       have hne7 : wc.heap.size ≤ w5.heap.size := q5.size
       rw [← hw7] at k79 q7 o7
       obtain ⟨G79, hG9⟩ : ∃ q, q = w5.heap.size := ⟨_, rfl⟩
       (try rw [← hG9] at k79 ⊢)
       replace hne7 : wc.heap.size ≤ G79 := by omega
       clear hG9 hw7)
    | (obtain ⟨w7, hw7⟩ : ∃ w7, w7 = (((w6.setCell ⟨wc.heap.size, 0, none⟩ (.int .u8 p0)).setCell ⟨wc.heap.size, 1, none⟩ (.int .u8 p1)).setCell ⟨wc.heap.size, 2, none⟩ (.int .u8 p2)) := ⟨_, rfl⟩
       rw [← hw7]
       obtain ⟨k79, q7, o7⟩ := set3 p0 p1 p2 zb6 q6 (Nat.le_refl _) o6 (fun k hk => by have := hv6 k hk; have := zb.lt; omega)
       have hne7 : wc.heap.size ≤ wc.heap.size := Nat.le_refl _
       rw [← hw7] at k79 q7 o7
       obtain ⟨G79, hG9⟩ : ∃ q, q = wc.heap.size := ⟨_, rfl⟩
       (try rw [← hG9] at k79 ⊢)
       replace hne7 : wc.heap.size ≤ G79 := by omega
       clear hG9 hw7))
    obtain ⟨A7, c7, rfl, _, r7⟩ := o7.rd
    try clear t0 t1 t2 z0 z1 z2
    try clear zb6
    try clear zb
    try clear hne6
    clear kd' hGl d0 d1 d2 hgs5 hcp5 k6 hv6 o7 o6 f6 q6 q5 b6 k5 hg5

    have rL := rA.below q7
    have kL := kS.bel q7
    have bF := bc.trans (q7.mono bc.size)
    obtain ⟨f0, f1, f2⟩ := cells3 k79
    obtain ⟨d0, d1, d2⟩ := cells3 kL
    clear hF rc kc rA kS bc
    by_cases hij : i = j
    · obtain ⟨rfl, rfl, rfl, rfl⟩ := HE1.out hij
      have hpp := HP.out
      rw [HX.out] at hpp
      simp only [List.cons.injEq, Value.int.injEq, true_and, and_true] at hpp
      obtain ⟨rfl, rfl, rfl⟩ := hpp
      have hii : ((i : Nat) : Int) = j := by rw [hij]
      have hq := eq_arr3_self x0 x1 x2
      have hll := HL.out
      rw [hll]
      have e1 : (convert 22 9 (.slice A7 n c7)).run Tryd.prog w7 = .ok (.string ⟨l'.toArray⟩) w7 := rd_string 22 9 5 Tryd.underlying22 Tryd.underlying5 Tryd.underlying9 HL.out r7
      have e2 : (convert 22 9 (.slice A n cap)).run Tryd.prog w7 = .ok (.string ⟨l'.toArray⟩) w7 := rd_string 22 9 5 Tryd.underlying22 Tryd.underlying5 Tryd.underlying9 HL.out rL
      clear hll
      go_wp2
      go_ret
      exact ⟨rfl, bF⟩
    · obtain ⟨rfl, rfl, rfl, rfl⟩ := HE2.out hij
      have hpp := HP.out
      rw [show triC 0 = [.int .u8 0, .int .u8 0, .int .u8 0] from rfl] at hpp
      simp only [List.cons.injEq, Value.int.injEq, true_and, and_true] at hpp
      obtain ⟨rfl, rfl, rfl⟩ := hpp
      have hii : ¬ ((i : Nat) : Int) = j := by omega
      have hq := eq_arr3_self 0 0 0
      simp only [List.length_nil]
      go_wp2
      go_ret
      exact ⟨rfl, bF⟩
end Go.Proofs.YtafjnkmfebibfaaDoor

