/- The law HammingNear: its walk. Printed by gen_near.py. -/
import Derived.Test.YtafjnkmfebibfaaDoorFn
namespace Go.Proofs.YtafjnkmfebibfaaDoor
open Go.RowKit
set_option linter.unusedVariables false
set_option linter.unusedSimpArgs false
def cntM (M N : Nat) : Int := if M < N then 1 else 0
def attM (M N : Nat) : Int := if M < N then (M : Int) else -1
theorem eq_arr3_ne (a b c x y z : Int) (h : ¬ (a = x ∧ b = y ∧ c = z)) (w : World) : (Op.equalIn 10000 23 (.agg #[.int .u8 a, .int .u8 b, .int .u8 c]) (.agg #[.int .u8 x, .int .u8 y, .int .u8 z])).run Tryd.prog w = .ok false w := by
  have h2 := eq_arr3 a b c x y z w
  rw [h2]
  have : (a == x && b == y && c == z) = false := by
    rw [← Bool.not_eq_true]
    simp only [Bool.and_eq_true, beq_iff_eq]
    exact fun h3 => h ⟨h3.1.1, h3.1.2, h3.2⟩
  rw [this]
theorem triC_inj {g g' : Nat} (hg : g < 16777216) (hg' : g' < 16777216) (h : triC g = triC g') : g = g' := by
  unfold triC at h
  simp only [List.cons.injEq, Value.int.injEq, true_and, and_true] at h
  omega
theorem cnt_zero (M : Nat) : cntM M 0 = 0 ∧ attM M 0 = -1 := by unfold cntM attM; simp
theorem cnt_at {M N : Nat} (h : N = M) : cntM M N = 0 ∧ attM M N = -1 ∧ cntM M (N + 1) = 1 ∧ attM M (N + 1) = N := by
  unfold cntM attM
  rw [if_neg (by omega), if_neg (by omega), if_pos (by omega), if_pos (by omega), h]
  exact ⟨rfl, rfl, rfl, rfl⟩
theorem cnt_ne {M N : Nat} (h : N ≠ M) : cntM M (N + 1) = cntM M N ∧ attM M (N + 1) = attM M N := by
  unfold cntM attM
  by_cases h1 : M < N
  · rw [if_pos h1, if_pos (by omega), if_pos h1, if_pos (by omega)]; exact ⟨rfl, rfl⟩
  · rw [if_neg h1, if_neg (by omega), if_neg h1, if_neg (by omega)]; exact ⟨rfl, rfl⟩
theorem rd_newd (w : World) (t : TypeId) (cs : List Value) : Rd (w.drew.alloc (.cells cs.toArray t)) (some ⟨w.heap.size, 0, none⟩) cs := rd_new w.drew t cs
theorem rd_new2 (w : World) (o : Obj) (t : TypeId) (cs : List Value) : Rd ((w.alloc o).alloc (.cells cs.toArray t)) (some ⟨w.heap.size + 1, 0, none⟩) cs := by
  have h := rd_new (w.alloc o) t cs
  rw [World.size_alloc] at h
  exact h
theorem rd_new2d (w : World) (o : Obj) (t : TypeId) (cs : List Value) : Rd ((w.alloc o).drew.alloc (.cells cs.toArray t)) (some ⟨w.heap.size + 1, 0, none⟩) cs := by
  have h := rd_new (w.alloc o).drew t cs
  rw [show (w.alloc o).drew.heap.size = (w.alloc o).heap.size from rfl, World.size_alloc] at h
  exact h
theorem cells33 {w : World} {G1 G2 : Nat} {t : TypeId} {x0 x1 x2 y0 y1 y2 : Int} (h1 : Blk w G1 t [.int .u8 x0, .int .u8 x1, .int .u8 x2]) (h2 : Blk w G2 t [.int .u8 y0, .int .u8 y1, .int .u8 y2]) :
    (w.cell? ⟨G1, 0, none⟩ = some (.int .u8 x0) ∧ w.cell? ⟨G1, 1, none⟩ = some (.int .u8 x1) ∧ w.cell? ⟨G1, 2, none⟩ = some (.int .u8 x2)) ∧ w.cell? ⟨G2, 0, none⟩ = some (.int .u8 y0) ∧ w.cell? ⟨G2, 1, none⟩ = some (.int .u8 y1) ∧ w.cell? ⟨G2, 2, none⟩ = some (.int .u8 y2) := ⟨cells3 h1, cells3 h2⟩
set_option maxRecDepth 100000 in
set_option maxHeartbeats 12800000 in
theorem near_walk (w : World) (A0 : Option Addr) (n0 c0 : Nat) (l : List UInt8) (hl : l.length = n0) (hr0 : Rd w A0 (u8s l)) (hm : n0 ≤ 140737488351232) (g : Nat) (hg : g < 16777216) (hT : Tab w) :
    Calls Tryd.prog 6 #[.slice A0 n0 c0, tri g] w fun e w' => e = .returned (.bool true) ∧ Below w.heap.size w w' := by
  have HT := Lib.hid hT
  clear hT
  obtain ⟨lq, hlq, hnq⟩ := tri_num3 g hg
  obtain ⟨q0, q1, q2, hq⟩ := tri_eq g
  have htq : tri g = .agg #[.int .u8 q0, .int .u8 q1, .int .u8 q2] := by unfold tri; rw [hq]
  have huq : u8s lq = [.int .u8 q0, .int .u8 q1, .int .u8 q2] := by rw [← triC_num3 lq hlq, hnq, hq]
  rw [htq]
  obtain ⟨w0, hw0⟩ : ∃ w0, w0 = w.alloc (.cells #[.int .u8 q0, .int .u8 q1, .int .u8 q2] 23) := ⟨_, rfl⟩
  obtain ⟨G3, hG3⟩ : ∃ G3, G3 = w.heap.size := ⟨_, rfl⟩
  have kq : Blk w0 G3 23 [.int .u8 q0, .int .u8 q1, .int .u8 q2] := by rw [hw0, hG3]; exact Blk.new w _ _
  have b0 : Below w.heap.size w w0 := by rw [hw0]; exact (Below.refl _ w).alloc (Nat.le_refl _) _
  replace hr0 := hr0.below b0
  go_enter Tryd.func6, Tryd.ntmps6
  go_wp2_with fail
  rw [← hw0, ← hG3]
  clear hw0 hG3
  with_reducible refine (whole_any A0 n0 c0 l _ hl hr0 hm).mono ?_
  rintro e w1 ⟨v1, lw, sp1, rfl, hlw, ho1, _, b1⟩
  replace kq := kq.bel b1
  replace b1 := b0.trans (b1.mono b0.size)
  clear hl hr0 hm b0
  obtain ⟨n, hn⟩ : ∃ n, n = 256 := ⟨_, rfl⟩
  rw [← hn] at ho1 hlw
  obtain ⟨A, cap, rfl, hcap, hr⟩ := ho1.rd
  have HL := Lib.hid hlw
  have HN := Lib.hid hn
  have hn2 : n ≤ 1000 := by omega
  have hn3 : 200 ≤ n := by omega
  obtain ⟨x0, x1, x2, hx⟩ := tri_eq (sumN lw)
  have hS1 := fun A' c' wx hr' => Sum256 A' n c' lw x0 x1 x2 wx hlw hn hr' hx
  obtain ⟨l', g', k, e', hFx⟩ := fix_total lw g hg
  have hN := fix_near lw g l' g' k e' (by rw [hlw, hn]) hFx
  obtain ⟨p0, p1, p2, hp⟩ := tri_eq g'
  have hF := fun A' c' wx hr' hT' => Fix256 A' n c' lw g l' g' k e' q0 q1 q2 p0 p1 p2 wx hlw hn hr' hg hT' hFx hq hp
  have HX := Lib.hid hx
  have HQ := Lib.hid hq
  have HNQ := Lib.hid hnq
  have HUQ := Lib.hid huq
  have HP := Lib.hid hp
  have HNR := Lib.hid hN
  clear ho1 hlw hn hx hcap hq hnq huq htq hp hN hFx
  go_wp2_with fail
  with_reducible refine (marked_any A n cap lw _ HL.out hr (by omega)).mono ?_
  rintro e w2 ⟨g2, cp2, sp2, rfl, hg2, hcp2, hgs2, b2⟩
  replace hr := hr.below b2
  replace kq := kq.bel b2
  replace b1 := b1.trans (b2.mono b1.size)
  clear b2 hcp2 hgs2
  go_wp2_with fail
  with_reducible refine (hS1 _ _ _ (Rd.of_blk (mks_ins hg2))).mono ?_
  rintro e w3 ⟨rfl, b3⟩
  replace hr := hr.below b3
  replace kq := kq.bel b3
  replace b1 := b1.trans (b3.mono b1.size)
  clear b3 hS1 hg2
  go_wp2
  obtain ⟨GS, hG⟩ : ∃ G, G = w3.heap.size := ⟨_, rfl⟩
  obtain ⟨w4, hw4⟩ : ∃ w4, w4 = w3.alloc (.cells #[.int .u8 x0, .int .u8 x1, .int .u8 x2] 23) := ⟨_, rfl⟩
  rw [← hw4, ← hG]
  have kS : Blk w4 GS 23 [.int .u8 x0, .int .u8 x1, .int .u8 x2] := by rw [hw4, hG]; exact Blk.new w3 _ _
  have r4 : Rd w4 A (u8s lw) := by rw [hw4]; exact hr.alloc _
  have b4 : Below w.heap.size w w4 := by rw [hw4]; exact b1.alloc b1.size _
  replace kq : Blk w4 G3 23 [.int .u8 q0, .int .u8 q1, .int .u8 q2] := by rw [hw4]; exact kq.alloc _
  clear hw4 hG hr b1
  have hGl := kq.lt
  have kd' : Blk w4.drew G3 23 [.int .u8 q0, .int .u8 q1, .int .u8 q2] := kq
  obtain ⟨d0, d1, d2⟩ := cells3 kq
  go_region_held3 (fun wx => wx.cell? ⟨G3, 0, none⟩ = some (.int .u8 q0) ∧ wx.cell? ⟨G3, 1, none⟩ = some (.int .u8 q1) ∧ wx.cell? ⟨G3, 2, none⟩ = some (.int .u8 q2)) (first | exact cells3 (by assumption) | exact cells3 (Blk.alloc (by assumption) _) | exact cells3 (far3 _ _ _ (by assumption) (by assumption)) | go_keep) (first
    | (go_at_call 9; first
        | ((with_reducible refine (marked_any A n cap lw _ HL.out r4.drew (by omega)).mono ?_); rintro e w5 ⟨g5, cp5, sp5, rfl, hg5, hcp5, hgs5, b5⟩; have q5 : Below w4.heap.size w4 w5 := ⟨b5.os, b5.tape, b5.output, b5.size, b5.block⟩)
        | ((with_reducible refine (marked_any A n cap lw _ HL.out (r4.alloc _).drew (by omega)).mono ?_); rintro e w5 ⟨g5, cp5, sp5, rfl, hg5, hcp5, hgs5, b5⟩; have q5 : Below w4.heap.size w4 w5 := ((Below.refl _ w4).alloc (Nat.le_refl _) (.cells #[.int .u8 0, .int .u8 0, .int .u8 0] 23)).trans (Below.mono ⟨b5.os, b5.tape, b5.output, b5.size, b5.block⟩ (by simp)); have zb : Blk w5 w4.heap.size 23 [.int .u8 0, .int .u8 0, .int .u8 0] := ((Blk.new w4 23 [.int .u8 0, .int .u8 0, .int .u8 0]).drew).bel b5)
       have k5 := kq.bel q5; clear b5; dsimp only)
    | (go_at_call 10; first
        | ((with_reducible refine (hF _ _ _ (Rd.of_blk (mks_ins hg5)) (HT.out.below (b4.trans (q5.mono b4.size)))).mono ?_); rintro e w6 ⟨v6, sp6, rfl, o6, f6, b6⟩; have q6 : Below w4.heap.size w4 w6 := q5.trans (b6.mono q5.size); have hv6 : ∀ k, v6.ownBlock = some k → w5.heap.size ≤ k := f6; (try (have zb6 := zb.bel b6; have hne6 : G3 ≠ w4.heap.size := (by omega))))
        | ((with_reducible refine (hF _ _ _ ((Rd.of_blk (mks_ins hg5)).alloc _) (HT.out.below ((b4.trans (q5.mono b4.size)).alloc (Nat.le_trans b4.size q5.size) _))).mono ?_); rintro e w6 ⟨v6, sp6, rfl, o6, f6, b6⟩; have q6 : Below w4.heap.size w4 w6 := (q5.alloc q5.size _).trans (b6.mono (by have := q5.size; simp at this ⊢; omega)); have hv6 : ∀ k, v6.ownBlock = some k → w5.heap.size + 1 ≤ k := (fun k hk => (by have := f6 k hk; simpa using this)); have zb6 : Blk w6 w5.heap.size 23 [.int .u8 0, .int .u8 0, .int .u8 0] := (Blk.new w5 23 [.int .u8 0, .int .u8 0, .int .u8 0]).bel b6; have hne6 : G3 ≠ w5.heap.size := (by have := q5.size; omega))
       have k6 := kq.bel q6; (try (obtain ⟨t0, t1, t2⟩ := cells3 zb6; have z0 := zb6.frozen 0; have z1 := zb6.frozen 1; have z2 := zb6.frozen 2)); dsimp only))
  all_goals
    (first
    | (obtain ⟨w7, hw7⟩ : ∃ w7, w7 = w6.alloc (.cells #[.int .u8 p0, .int .u8 p1, .int .u8 p2] 23) := ⟨_, rfl⟩
       rw [← hw7]
       have k79 : Blk w7 w6.heap.size 23 [.int .u8 p0, .int .u8 p1, .int .u8 p2] := by rw [hw7]; exact Blk.new w6 _ _
       have q7 : Below w4.heap.size w4 w7 := by rw [hw7]; exact q6.alloc q6.size _
       have o7 : Own w7 5 1 v6 (l'.length) (u8s l') sp6 := by rw [hw7]; exact o6.alloc _
       have hne7 : w4.heap.size ≤ w6.heap.size := q6.size
       obtain ⟨G79, hG9⟩ : ∃ q, q = w6.heap.size := ⟨_, rfl⟩
       (try rw [← hG9] at k79 ⊢)
       replace hne7 : w4.heap.size ≤ G79 := by omega
       clear hG9 hw7)
    | (obtain ⟨w7, hw7⟩ : ∃ w7, w7 = (((w6.setCell ⟨w5.heap.size, 0, none⟩ (.int .u8 p0)).setCell ⟨w5.heap.size, 1, none⟩ (.int .u8 p1)).setCell ⟨w5.heap.size, 2, none⟩ (.int .u8 p2)) := ⟨_, rfl⟩
       rw [← hw7]
       obtain ⟨k79, q7, o7⟩ := set3 p0 p1 p2 zb6 q6 q5.size o6 (fun k hk => by have := hv6 k hk; omega)
       have hne7 : w4.heap.size ≤ w5.heap.size := q5.size
       rw [← hw7] at k79 q7 o7
       obtain ⟨G79, hG9⟩ : ∃ q, q = w5.heap.size := ⟨_, rfl⟩
       (try rw [← hG9] at k79 ⊢)
       replace hne7 : w4.heap.size ≤ G79 := by omega
       clear hG9 hw7)
    | (obtain ⟨w7, hw7⟩ : ∃ w7, w7 = (((w6.setCell ⟨w4.heap.size, 0, none⟩ (.int .u8 p0)).setCell ⟨w4.heap.size, 1, none⟩ (.int .u8 p1)).setCell ⟨w4.heap.size, 2, none⟩ (.int .u8 p2)) := ⟨_, rfl⟩
       rw [← hw7]
       obtain ⟨k79, q7, o7⟩ := set3 p0 p1 p2 zb6 q6 (Nat.le_refl _) o6 (fun k hk => by have := hv6 k hk; have := zb.lt; omega)
       have hne7 : w4.heap.size ≤ w4.heap.size := Nat.le_refl _
       rw [← hw7] at k79 q7 o7
       obtain ⟨G79, hG9⟩ : ∃ q, q = w4.heap.size := ⟨_, rfl⟩
       (try rw [← hG9] at k79 ⊢)
       replace hne7 : w4.heap.size ≤ G79 := by omega
       clear hG9 hw7))
    obtain ⟨A7, c7, rfl, _, r7⟩ := o7.rd
    try clear t0 t1 t2 z0 z1 z2
    try clear zb6
    try clear zb
    try clear hne6
    clear kd' hGl d0 d1 d2 hgs5 hcp5 k6 hv6 o7 o6 f6 q6 q5 b6 k5 hg5

    have rL := r4.below q7
    have kL := kS.bel q7
    have kQ := kq.bel q7
    have bF := b4.trans (q7.mono b4.size)
    obtain ⟨f0, f1, f2⟩ := cells3 k79
    obtain ⟨d0, d1, d2⟩ := cells3 kL
    obtain ⟨s0, s1, s2⟩ := cells3 kQ
    clear hF r4 kq kS b4 q7 hne7
    rcases HNR.out with ⟨rfl, hne, rfl, rfl, rfl⟩ | ⟨rfl, hsum, hll, M, hM, hB1, hB2⟩
    · have hqq : ¬ (q0 = x0 ∧ q1 = x1 ∧ q2 = x2) := fun ⟨h1, h2, h3⟩ => hne (triC_inj hg (sumN_lt lw) (by rw [HQ.out, HX.out, h1, h2, h3]))
      have hq := eq_arr3_ne q0 q1 q2 x0 x1 x2 hqq
      clear hqq hne
      simp only [List.length_nil]
      go_wp2
      go_ret
      exact ⟨rfl, bF⟩
    · have hll2 : l'.length = n := by rw [hll, HN.out]
      rw [hll2]
      have HL' := Lib.hid hll2
      have hS2 := fun A' c' wx hr' => Sum256 A' n c' l' p0 p1 p2 wx hll2 HN.out hr' (by rw [hsum]; exact HP.out)
      have hnn : ((n : Nat) : Int) = 256 := by have := HN.out; omega
      have hg' := sumN_lt l'
      rw [hsum] at hg'
      obtain ⟨lp, hlp, hnp⟩ := tri_num3 g' hg'
      have hup : u8s lp = [.int .u8 p0, .int .u8 p1, .int .u8 p2] := by rw [← triC_num3 lp hlp, hnp, HP.out]
      have HUP := Lib.hid hup
      have HNP := Lib.hid hnp
      have HLP := Lib.hid hlp
      have HM1 := Lib.hid hB1
      have HM2 := Lib.hid hB2
      have HK := Lib.hid hM
      clear hll hll2 hsum hup hnp hlp hB1 hB2 hM
      have HNN := Lib.hid hnn
      clear hnn
      go_wp2_with fail
      with_reducible refine (marked_any A7 n c7 l' _ HL'.out r7 (by omega)).mono ?_
      rintro e w8 ⟨g8, cp8, sp8, rfl, hg8, _, _, b8⟩
      clear f0 f1 f2 d0 d1 d2 s0 s1 s2
      replace r7 := r7.below b8
      replace rL := rL.below b8
      replace kQ := kQ.bel b8
      replace k79 := k79.bel b8
      replace bF := bF.trans (b8.mono bF.size)
      clear b8 kL
      go_wp2_with fail
      with_reducible refine (hS2 _ _ _ (Rd.of_blk (mks_ins hg8))).mono ?_
      rintro e w9 ⟨rfl, b8⟩
      replace r7 := r7.below b8
      replace rL := rL.below b8
      replace kQ := kQ.bel b8
      replace k79 := k79.bel b8
      replace bF := bF.trans (b8.mono bF.size)
      clear b8 hg8 hS2
      replace r7 := r7.alloc (.cells #[.int .u8 p0, .int .u8 p1, .int .u8 p2] 23)
      replace rL := rL.alloc (.cells #[.int .u8 p0, .int .u8 p1, .int .u8 p2] 23)
      replace kQ := kQ.alloc (.cells #[.int .u8 p0, .int .u8 p1, .int .u8 p2] 23)
      replace k79 := k79.alloc (.cells #[.int .u8 p0, .int .u8 p1, .int .u8 p2] 23)
      replace bF := bF.alloc bF.size (.cells #[.int .u8 p0, .int .u8 p1, .int .u8 p2] 23)
      obtain ⟨f0, f1, f2⟩ := cells3 k79
      have hq := eq_arr3_self p0 p1 p2
      have hnn := HNN.out
      go_wp2
      obtain ⟨wa, hwa⟩ : ∃ wa, wa = w9.alloc (.cells #[.int .u8 p0, .int .u8 p1, .int .u8 p2] 23) := ⟨_, rfl⟩
      rw [← hwa] at r7 rL kQ k79 bF f0 f1 f2 ⊢
      clear hwa hq hnn f0 f1 f2
      go_loopw [14, 15, 16] (fun o a i wr => ∃ N : Nat, N ≤ 2048 ∧ i = .int .i64 N ∧ o = .int .i64 (cntM M N) ∧ a = .int .i64 (attM M N) ∧ wr = wa) (fun _ _ i _ => 2048 - (intI i))
      case atStart => exact ⟨0, by omega, rfl, by rw [(cnt_zero M).1], by rw [(cnt_zero M).2], rfl⟩
      case round =>
        obtain ⟨N, hN, rfl, rfl, rfl, rfl⟩ := hrel
        by_cases hlt : N < 2048
        · have hd := HM1.out N hlt
          have hC1 := fun wx hr' => bitR_any A7 n c7 l' N wx HL'.out hr' (by have := HN.out; omega) (by omega)
          have hC2 := fun wx hr' => bitR_any A n cap lw N wx HL.out hr' (by have := HN.out; omega) (by omega)
          have hb1 := bitAt_lt l' N
          have hb2 := bitAt_lt lw N
          generalize bitAt l' N = u at *
          generalize bitAt lw N = v at *
          by_cases hNM : N = M
          · have huv : ¬ ((u : Nat) : Int) = v := by have h2 : ¬ u = v := fun h => (hd.mp h) hNM; omega
            obtain ⟨e1, e2, e3, e4⟩ := cnt_at hNM
            rw [e1]
            clear e1 e2
            have HNM := Lib.hid hNM
            have H3 := Lib.hid e3
            have H4 := Lib.hid e4
            clear hNM e3 e4 hd
            go_wp2_with (go_at_call 17; first | ((with_reducible refine (hC1 _ r7).mono ?_); rintro e w' ⟨rfl, rfl⟩) | ((with_reducible refine (hC2 _ rL).mono ?_); rintro e w' ⟨rfl, rfl⟩))
            exact ⟨⟨N + 1, hlt, rfl, by rw [H3.out], by rw [H4.out], trivial⟩, by simp [intI]; omega⟩
          · have huv : u = v := hd.mpr hNM
            subst huv
            obtain ⟨e1, e2⟩ := cnt_ne hNM
            have H1 := Lib.hid e1
            have H2 := Lib.hid e2
            clear e1 e2 hd hNM
            go_wp2_with (go_at_call 17; first | ((with_reducible refine (hC1 _ r7).mono ?_); rintro e w' ⟨rfl, rfl⟩) | ((with_reducible refine (hC2 _ rL).mono ?_); rintro e w' ⟨rfl, rfl⟩))
            exact ⟨⟨N + 1, hlt, rfl, by rw [H1.out], by rw [H2.out], trivial⟩, by simp [intI]; omega⟩
        · obtain ⟨N0, hN0⟩ : ∃ N0, N0 = N := ⟨_, rfl⟩
          rw [← hN0]
          have hN1 : N0 = 2048 := by omega
          have HN0 := Lib.hid hN1
          have hge : ¬ N0 < 2048 := by omega
          clear r7 rL hN1 hN0 hN hlt
          clear N
          go_wp2
          go_loopw [14, 15, 17] (fun o a i wy => ∃ N : Nat, N ≤ 24 ∧ i = .int .i64 N ∧ o = .int .i64 (cntM M (N0 + N)) ∧ a = .int .i64 (attM M (N0 + N)) ∧ Below wr.heap.size wr wy) (fun _ _ i _ => 24 - (intI i))
          case atStart => exact ⟨0, by omega, rfl, rfl, rfl, Below.refl _ _⟩
          case round =>
            obtain ⟨N, hN, rfl, rfl, rfl, hby⟩ := hrel
            by_cases hlt : N < 24
            · have hd := HM2.out N hlt
              rw [show 2048 + N = N0 + N by rw [HN0.out], ← HNP.out, ← HNQ.out, ← num3_bit lp N hlt, ← num3_bit lq N hlt] at hd
              have hC1 := fun A' c' wx hr' => bitR_any A' 3 c' lp N wx HLP.out hr' (by omega) (by omega)
              have hC2 := fun A' c' wx hr' => bitR_any A' 3 c' lq N wx hlq hr' (by omega) (by omega)
              rw [HUP.out] at hC1
              rw [HUQ.out] at hC2
              have hb1 := bitAt_lt lp N
              have hb2 := bitAt_lt lq N
              have y79 := k79.bel hby
              have yQ := kQ.bel hby
              obtain ⟨f0, f1, f2⟩ := cells3 y79
              obtain ⟨s0, s1, s2⟩ := cells3 yQ
              generalize bitAt lp N = u at *
              generalize bitAt lq N = v at *
              go_wp2
              have ysz := hby.size
              go_region_held3 (fun wx => (wx.cell? ⟨G79, 0, none⟩ = some (.int .u8 p0) ∧ wx.cell? ⟨G79, 1, none⟩ = some (.int .u8 p1) ∧ wx.cell? ⟨G79, 2, none⟩ = some (.int .u8 p2)) ∧ wx.cell? ⟨G3, 0, none⟩ = some (.int .u8 q0) ∧ wx.cell? ⟨G3, 1, none⟩ = some (.int .u8 q1) ∧ wx.cell? ⟨G3, 2, none⟩ = some (.int .u8 q2)) (first | exact cells33 y79 yQ | exact cells33 (y79.alloc _) (yQ.alloc _) | exact cells33 ((y79.alloc _).alloc _) ((yQ.alloc _).alloc _) | go_keep) (first
                | (go_at_call 17; first
                    | ((with_reducible refine (hC1 _ _ _ (rd_new _ _ _)).mono ?_); rintro e w' ⟨rfl, rfl⟩)
                    | ((with_reducible refine (hC2 _ _ _ (rd_new _ _ _)).mono ?_); rintro e w' ⟨rfl, rfl⟩)
                    | ((with_reducible refine (hC1 _ _ _ ((rd_new _ _ _).drew)).mono ?_); rintro e w' ⟨rfl, rfl⟩)
                    | ((with_reducible refine (hC2 _ _ _ ((rd_new _ _ _).drew)).mono ?_); rintro e w' ⟨rfl, rfl⟩)
                    | ((with_reducible refine (hC1 _ _ _ (rd_new2 _ _ _ _)).mono ?_); rintro e w' ⟨rfl, rfl⟩)
                    | ((with_reducible refine (hC2 _ _ _ (rd_new2 _ _ _ _)).mono ?_); rintro e w' ⟨rfl, rfl⟩)
                    | ((with_reducible refine (hC1 _ _ _ ((rd_new2 _ _ _ _).drew)).mono ?_); rintro e w' ⟨rfl, rfl⟩)
                    | ((with_reducible refine (hC2 _ _ _ ((rd_new2 _ _ _ _).drew)).mono ?_); rintro e w' ⟨rfl, rfl⟩)
                    | ((with_reducible refine (hC1 _ _ _ ((rd_new _ _ _).alloc _)).mono ?_); rintro e w' ⟨rfl, rfl⟩)
                    | ((with_reducible refine (hC2 _ _ _ ((rd_new _ _ _).alloc _)).mono ?_); rintro e w' ⟨rfl, rfl⟩)
                    | ((with_reducible refine (hC1 _ _ _ (((rd_new _ _ _).alloc _).drew)).mono ?_); rintro e w' ⟨rfl, rfl⟩)
                    | ((with_reducible refine (hC2 _ _ _ (((rd_new _ _ _).alloc _).drew)).mono ?_); rintro e w' ⟨rfl, rfl⟩)
                    | ((with_reducible refine (hC1 _ _ _ (rd_newd _ _ _)).mono ?_); rintro e w' ⟨rfl, rfl⟩)
                    | ((with_reducible refine (hC2 _ _ _ (rd_newd _ _ _)).mono ?_); rintro e w' ⟨rfl, rfl⟩)
                    | ((with_reducible refine (hC1 _ _ _ (rd_new2d _ _ _ _)).mono ?_); rintro e w' ⟨rfl, rfl⟩)
                    | ((with_reducible refine (hC2 _ _ _ (rd_new2d _ _ _ _)).mono ?_); rintro e w' ⟨rfl, rfl⟩)
                    | ((with_reducible refine (hC1 _ _ _ (((rd_new _ _ _).drew).alloc _)).mono ?_); rintro e w' ⟨rfl, rfl⟩)
                    | ((with_reducible refine (hC2 _ _ _ (((rd_new _ _ _).drew).alloc _)).mono ?_); rintro e w' ⟨rfl, rfl⟩)
                    | ((with_reducible refine (hC1 _ _ _ ((rd_newd _ _ _).alloc _)).mono ?_); rintro e w' ⟨rfl, rfl⟩)
                    | ((with_reducible refine (hC2 _ _ _ ((rd_newd _ _ _).alloc _)).mono ?_); rintro e w' ⟨rfl, rfl⟩)
                    | ((with_reducible refine (hC1 _ _ _ ((((rd_new _ _ _).drew).alloc _).drew)).mono ?_); rintro e w' ⟨rfl, rfl⟩)
                    | ((with_reducible refine (hC2 _ _ _ ((((rd_new _ _ _).drew).alloc _).drew)).mono ?_); rintro e w' ⟨rfl, rfl⟩)
                    | ((with_reducible refine (hC1 _ _ _ ((rd_new2d _ _ _ _).drew)).mono ?_); rintro e w' ⟨rfl, rfl⟩)
                    | ((with_reducible refine (hC2 _ _ _ ((rd_new2d _ _ _ _).drew)).mono ?_); rintro e w' ⟨rfl, rfl⟩)
                   dsimp only))
              all_goals
                by_cases hNM : N0 + N = M
                · have huv : ¬ ((u : Nat) : Int) = v := by have h2 : ¬ u = v := fun h => (hd.mp h) hNM; omega
                  obtain ⟨e1, e2, e3, e4⟩ := cnt_at hNM
                  rw [e1]
                  clear e1 e2
                  have HNM := Lib.hid hNM
                  have H3 := Lib.hid e3
                  have H4 := Lib.hid e4
                  clear hNM e3 e4 hd
                  have B1 := fun o => hby.alloc hby.size o
                  have B2 := fun o o' => (B1 o).alloc (B1 o).size o'
                  have B3 := fun o o' => (bel_drew (B1 o)).alloc (bel_drew (B1 o)).size o'
                  have HB1 := Lib.hid B2
                  have HB2 := Lib.hid B3
                  clear B1 B2 B3
                  go_wp2
                  go_roundw
                  case rel =>
                    refine ⟨N + 1, hlt, by go_num, by rw [show N0 + (N + 1) = N0 + N + 1 from rfl, H3.out], by rw [show N0 + (N + 1) = N0 + N + 1 from rfl, H4.out]; congr 1; have := HN0.out; omega, ?_⟩
                    first | exact bel_drew (HB1.out _ _) | exact HB1.out _ _ | exact HB2.out _ _ | exact bel_drew (HB2.out _ _)
                  case measure => simp [intI]; omega
                · have huv : u = v := hd.mpr (fun h => hNM h)
                  subst huv
                  obtain ⟨e1, e2⟩ := cnt_ne hNM
                  have H1 := Lib.hid e1
                  have H2 := Lib.hid e2
                  clear e1 e2 hd hNM
                  have B1 := fun o => hby.alloc hby.size o
                  have B2 := fun o o' => (B1 o).alloc (B1 o).size o'
                  have B3 := fun o o' => (bel_drew (B1 o)).alloc (bel_drew (B1 o)).size o'
                  have HB1 := Lib.hid B2
                  have HB2 := Lib.hid B3
                  clear B1 B2 B3
                  go_wp2
                  go_roundw
                  case rel =>
                    refine ⟨N + 1, hlt, by go_num, by rw [show N0 + (N + 1) = N0 + N + 1 from rfl, H1.out], by rw [show N0 + (N + 1) = N0 + N + 1 from rfl, H2.out], ?_⟩
                    first | exact bel_drew (HB1.out _ _) | exact HB1.out _ _ | exact HB2.out _ _ | exact bel_drew (HB2.out _ _)
                  case measure => simp [intI]; omega
            · obtain rfl : N = 24 := by omega
              have h2072 : N0 + 24 = 2072 := by have := HN0.out; omega
              rw [h2072]
              have hfin : cntM M 2072 ≤ 1 ∧ attM M 2072 = k := by
                unfold cntM attM
                rcases HK.out with ⟨h1, h2⟩ | ⟨h1, h2⟩
                · rw [if_pos h1, if_pos h1, h2]; exact ⟨by decide, rfl⟩
                · rw [if_neg (by omega), if_neg (by omega), h2]; exact ⟨by decide, rfl⟩
              obtain ⟨hfa, hfb⟩ := hfin
              have bE := bF.trans (hby.mono bF.size)
              rw [hfb]
              clear hfb
              generalize cntM M 2072 = cc at *
              go_wp2
              go_ret
              exact ⟨rfl, bE⟩
end Go.Proofs.YtafjnkmfebibfaaDoor

