/- The law HammingRises: its walk. Printed by gen_rises.py. -/
import Derived.Test.YtafjnkmfebibfaaDoorFz
import Derived.StillTailTactics
import Derived.Deep.DeepCutAuto
import Derived.Deep.CutBlock
namespace Go.Proofs.YtafjnkmfebibfaaDoor
open Go.RowKit
set_option linter.unusedVariables false
set_option linter.unusedSimpArgs false
theorem eq_arr3_ne (a b c x y z : Int) (h : ¬ (a = x ∧ b = y ∧ c = z)) (w : World) : (Op.equalIn 10000 23 (.agg #[.int .u8 a, .int .u8 b, .int .u8 c]) (.agg #[.int .u8 x, .int .u8 y, .int .u8 z])).run Tryd.prog w = .ok false w := by
  have h2 := eq_arr3 a b c x y z w
  rw [h2]
  have : (a == x && b == y && c == z) = false := by
    rw [← Bool.not_eq_true]
    simp only [Bool.and_eq_true, beq_iff_eq]
    exact fun h3 => h ⟨h3.1.1, h3.1.2, h3.2⟩
  rw [this]
theorem triC_inj {g g' : Nat} (hg : g < 16777216) (hg' : g' < 16777216) (h : triC g = triC g') : g = g' := by
  unfold triC at h
  simp only [List.cons.injEq, Value.int.injEq, true_and, and_true] at h
  omega
theorem rd_new2 (w : World) (o : Obj) (t : TypeId) (cs : List Value) : Rd ((w.alloc o).alloc (.cells cs.toArray t)) (some ⟨w.heap.size + 1, 0, none⟩) cs := by
  have h := rd_new (w.alloc o) t cs
  rw [World.size_alloc] at h
  exact h
theorem cells33 {w : World} {G1 G2 : Nat} {t t' : TypeId} {x0 x1 x2 y0 y1 y2 : Int} (h1 : Blk w G1 t [.int .u8 x0, .int .u8 x1, .int .u8 x2]) (h2 : Blk w G2 t' [.int .u8 y0, .int .u8 y1, .int .u8 y2]) :
    (w.cell? ⟨G1, 0, none⟩ = some (.int .u8 x0) ∧ w.cell? ⟨G1, 1, none⟩ = some (.int .u8 x1) ∧ w.cell? ⟨G1, 2, none⟩ = some (.int .u8 x2)) ∧ w.cell? ⟨G2, 0, none⟩ = some (.int .u8 y0) ∧ w.cell? ⟨G2, 1, none⟩ = some (.int .u8 y1) ∧ w.cell? ⟨G2, 2, none⟩ = some (.int .u8 y2) := ⟨cells3 h1, cells3 h2⟩
/-- What stands behind the steps of the loop: the copy of the sector and of its sum. -/
def Ris (w wr : World) (gs gt : Nat) (lw lq m : List UInt8) (sps : List Value) (k : Nat) : Prop :=
  Blk wr gs 5 (u8s (upd (riseB lw m 0) lw (min k 256)) ++ sps) ∧ Blk wr gt 5 (u8s (upd (riseB lq (m.drop 256) 0) lq (k - 256))) ∧ Frm (fun q => q = gs ∨ q = gt) w wr
def RisE (w wr : World) (gs gt : Nat) (lw lq m : List UInt8) (sps : List Value) : Prop :=
  Blk wr gs 5 (u8s (riseR lw m 0) ++ sps) ∧ Blk wr gt 5 (u8s (riseR lq (m.drop 256) 0)) ∧ Frm (fun q => q = gs ∨ q = gt) w wr
/-- What Fix has told stands in its variables. -/
def FixT (w wx : World) (l' : List UInt8) (k e : Int) (p0 p1 p2 : Int) (a b c d : Value) : Prop :=
  ∃ A cp G, a = .slice A l'.length cp ∧ b = .pointer (some ⟨G, 0, none⟩) ∧ c = .int .i64 k ∧ d = .int .i64 e ∧ Rd wx A (u8s l') ∧ Blk wx G 23 [.int .u8 p0, .int .u8 p1, .int .u8 p2] ∧ Below w.heap.size w wx
theorem bel_drewN {B : Nat} {w w' : World} (h : Below B w w') (n : Nat) : Below B w (w'.drewN n) := ⟨h.os, h.tape, h.output, h.size, h.block⟩
theorem Ris.drew {w wr : World} {gs gt : Nat} {lw lq m : List UInt8} {sps : List Value} {k : Nat} (h : Ris w wr gs gt lw lq m sps k) : Ris w wr.drew gs gt lw lq m sps k := ⟨h.1, h.2.1, h.2.2.drew⟩
set_option maxRecDepth 100000 in
set_option maxHeartbeats 12800000 in
theorem rises_walk (w : World) (A0 : Option Addr) (n0 c0 : Nat) (l : List UInt8) (hl : l.length = n0) (hr0 : Rd w A0 (u8s l)) (hm : n0 ≤ 140737488351232) (A1 : Option Addr) (n1 c1 : Nat) (lm : List UInt8) (hlm : lm.length = n1) (hr1 : Rd w A1 (u8s lm)) (hm1 : n1 ≤ 140737488351232) (hT : Tab w) :
    Calls Tryd.prog 7 #[.slice A0 n0 c0, .slice A1 n1 c1] w fun e w' => e = .returned (.bool true) ∧ Below w.heap.size w w' := by
  have HT := Lib.hid hT
  have HLM := Lib.hid hlm
  clear hT hlm
  go_enter Tryd.func7, Tryd.ntmps7
  go_wp2_with fail
  with_reducible refine (whole_any A0 n0 c0 l _ hl hr0 hm).mono ?_
  rintro e w1 ⟨v1, lw, sp1, rfl, hlw, ho1, _, b1⟩
  clear hl hr0 hm
  obtain ⟨n, hn⟩ : ∃ n, n = 256 := ⟨_, rfl⟩
  rw [← hn] at ho1 hlw
  obtain ⟨A, cap, rfl, hcap, hr⟩ := ho1.rd
  have hAb : ∀ ad, A = some ad → ad.block < w1.heap.size := fun ad e => by
    obtain ⟨ad2, e2, hb⟩ := hr.blocks (by intro h; have := congrArg List.length h; rw [u8s_length, hlw] at this; simp at this; omega)
    rw [e] at e2; cases e2; exact hb
  obtain ⟨N1, hN1⟩ : ∃ N1, N1 = w1.heap.size := ⟨_, rfl⟩
  rw [← hN1] at hAb
  have hN1' : N1 ≤ w1.heap.size := by omega
  clear hN1
  have HL := Lib.hid hlw
  have HN := Lib.hid hn
  have hn2 : n ≤ 1000 := by omega
  have hn3 : 200 ≤ n := by omega
  obtain ⟨x0, x1, x2, hx⟩ := tri_eq (sumN lw)
  have hS1 := fun A' c' wx hr' => Sum256 A' n c' lw x0 x1 x2 wx hlw hn hr' hx
  obtain ⟨lq, hlq, hnq⟩ := tri_num3 (sumN lw) (sumN_lt lw)
  have huq : u8s lq = [.int .u8 x0, .int .u8 x1, .int .u8 x2] := by rw [← triC_num3 lq hlq, hnq, hx]
  have HX := Lib.hid hx
  have HQL := Lib.hid hlq
  have HQN := Lib.hid hnq
  have HUQ := Lib.hid huq
  clear ho1 hlw hn hx hcap hlq hnq huq
  go_wp2_with fail
  with_reducible refine (marked_any A n cap lw _ HL.out hr (by omega)).mono ?_
  rintro e w2 ⟨g2, cp2, sp2, rfl, hg2, hcp2, hgs2, b2⟩
  replace hr := hr.below b2
  replace b1 := b1.trans (b2.mono b1.size)
  have hN2 : N1 ≤ w2.heap.size := Nat.le_trans hN1' b2.size
  clear b2 hcp2 hgs2 hN1'
  go_wp2_with fail
  with_reducible refine (hS1 _ _ _ (Rd.of_blk (mks_ins hg2))).mono ?_
  rintro e w3 ⟨rfl, b3⟩
  replace hr := hr.below b3
  replace b1 := b1.trans (b3.mono b1.size)
  have hN3 : N1 ≤ w3.heap.size := Nat.le_trans hN2 b3.size
  clear b3 hS1 hg2 hN2
  obtain ⟨w4, hw4⟩ : ∃ w4, w4 = w3.alloc (.cells #[.int .u8 x0, .int .u8 x1, .int .u8 x2] 23) := ⟨_, rfl⟩
  have kS : Blk w4 w3.heap.size 23 [.int .u8 x0, .int .u8 x1, .int .u8 x2] := by rw [hw4]; exact Blk.new w3 _ _
  have r4 : Rd w4 A (u8s lw) := by rw [hw4]; exact hr.alloc _
  have b4 : Below w.heap.size w w4 := by rw [hw4]; exact b1.alloc b1.size _
  obtain ⟨w5, hw5⟩ : ∃ w5, w5 = w4.alloc (.cells #[] 5) := ⟨_, rfl⟩
  have kS5 : Blk w5 w3.heap.size 23 [.int .u8 x0, .int .u8 x1, .int .u8 x2] := by rw [hw5]; exact kS.alloc _
  have r5 : Rd w5 A (u8s lw) := by rw [hw5]; exact r4.alloc _
  have b5 : Below w.heap.size w w5 := by rw [hw5]; exact b4.alloc b4.size _
  have o5 : Own w5 5 1 (.slice (some ⟨w3.heap.size + 1, 0, none⟩) 0 0) 0 [] [] := by
    have h := Own.new w4 5 1 0 [] rfl (Nat.zero_le _)
    rw [show w4.heap.size = w3.heap.size + 1 by rw [hw4]; simp] at h
    rw [hw5]; exact h
  have hs5 : w3.heap.size + 2 = w5.heap.size := by rw [hw5, hw4]; simp
  have hG3 : w.heap.size ≤ w3.heap.size := b1.size
  rw [hw4] at hw5
  obtain ⟨GS, hG⟩ : ∃ G, G = w3.heap.size := ⟨_, rfl⟩
  rw [← hG] at kS5 o5 hs5 hG3 hN3
  have HS5 := Lib.hid hs5
  clear hw4 hr b1 kS r4 b4 hs5
  go_wp2_with (at_builtin; rw [← hw5, ← hG]; clear hw5 hG; refine wpList_app _ rfl (.tmp 25) (.tmp 26) 22 rfl 5 _ 1 1 Tryd.underlying22 info5 rfl (by decide) rfl o5 rfl ?_ r5 (one_u8s lw) ?_ ?_ ?_)
  · rw [u8s_length, HL.out]; exact (Nat.mul_one _).symm
  · unfold maxLen; omega
  · omega
  intro v6 w6 sps ho6 hy6
  have f6 := hy6.frm
  have a6 := hy6.at_
  have v6f := fresh_app (B := GS + 1) (by have := HS5.out; omega) (by intro k hk; cases hk; exact Nat.le_refl _) a6
  obtain ⟨gs, cps, rfl, hbs, _, _, _, _⟩ := ho6.blk (by omega)
  have hgs : GS < gs := v6f gs rfl
  have b6 : Below w.heap.size w w6 := below_frm b5 b5.size f6 (fun q hq => by have h2 : GS + 1 = q := Option.some.inj hq; omega)
  have kS6 : Blk w6 GS 23 [.int .u8 x0, .int .u8 x1, .int .u8 x2] := kS5.frm f6 (fun h => by have h2 : GS + 1 = GS := Option.some.inj h; omega)
  have r6 : Rd w6 A (u8s lw) := r5.frm f6 (fun ad e h => by have := hAb ad e; have h2 : GS + 1 = ad.block := Option.some.inj h; omega)
  obtain ⟨d0, d1, d2⟩ := cells3 kS6
  clear hy6 f6 a6 v6f ho6 b5 kS5 r5 o5 HS5
  obtain ⟨w7, hw7⟩ : ∃ w7, w7 = w6.alloc (.cells #[.int .u8 x0, .int .u8 x1, .int .u8 x2] 5) := ⟨_, rfl⟩
  obtain ⟨gt, hgt⟩ : ∃ gt, gt = w6.heap.size := ⟨_, rfl⟩
  have kt : Blk w7 gt 5 (u8s lq) := by rw [hw7, hgt, HUQ.out]; exact Blk.new w6 _ _
  have ks : Blk w7 gs 5 (u8s lw ++ sps) := by rw [hw7]; exact hbs.alloc _
  have kS7 : Blk w7 GS 23 [.int .u8 x0, .int .u8 x1, .int .u8 x2] := by rw [hw7]; exact kS6.alloc _
  have r7 : Rd w7 A (u8s lw) := by rw [hw7]; exact r6.alloc _
  have b7 : Below w.heap.size w w7 := by rw [hw7]; exact b6.alloc b6.size _
  have hgs2 : gs < gt := by rw [hgt]; exact hbs.lt
  go_upto_block 0 with (fail)
  rw [← hw7, ← hgt]
  clear hw7 hgt hbs kS6 r6 b6 d0 d1 d2
  go_cut [10] (fun i wx => RisE w7 wx gs gt lw lq lm sps)
  case first =>
    go_wp2_with fail
    go_loopw [10] (fun i wr => ∃ k : Nat, k ≤ 259 ∧ k ≤ n1 ∧ i = .int .i64 k ∧ Ris w7 wr gs gt lw lq lm sps k) (fun i _ => 259 - (intI i))
    case atStart =>
      refine ⟨0, by omega, by omega, rfl, ?_, ?_, Frm.refl _ _⟩
      · rw [show min 0 256 = 0 from rfl, upd_zero]; exact ks
      · rw [show 0 - 256 = 0 from rfl, upd_zero]; exact kt
    case round =>
      obtain ⟨k, hk, hkn, rfl, hris⟩ := hrel
      by_cases hlt : k < n1 ∧ k < 259
      · obtain ⟨hlt1, hlt2⟩ := hlt
        obtain ⟨hbs, hbt, hfr⟩ := hris
        have hrm : Rd wr A1 (u8s lm) := by
          refine Rd.below hr1 ⟨hfr.os.trans b7.os, hfr.tape.trans b7.tape, hfr.output.trans b7.output, Nat.le_trans b7.size hfr.size, fun q hq => ?_⟩
          rw [hfr.block q (Nat.lt_of_lt_of_le hq b7.size) (by omega), b7.block q hq]
        obtain ⟨ad, rfl, hc1⟩ := hrm.at_ (k := k) (u8s_bt lm k (by have := HLM.out; omega))
        by_cases h256 : k < 256
        · rw [show min k 256 = k by omega] at hbs
          have hlk : k < lw.length := by have := HL.out; have := HN.out; omega
          have hc0 : wr.cell? ⟨gs, k, none⟩ = some (.int .u8 ((bt lw k).toNat : Int)) := by
            rw [hbs.cell, List.getElem?_append_left (by rw [u8s_length, upd_len _ _ _ (by omega)]; omega), u8s_bt _ _ (by rw [upd_len _ _ _ (by omega)]; omega), upd_bt _ _ _ (by omega)]
          have hz := hbs.frozen k
          have hx : Go.bits .or .u8 ((bt lw k).toNat : Int) ((bt lm k).toNat : Int) = ((riseB lw lm 0 k).toNat : Int) := by
            rw [u8_or_b]; unfold riseB mk; rw [if_pos (by have := HLM.out; omega)]
          have hbs2 := hbs.set_ k (bv (riseB lw lm 0 k))
          rw [List.set_append_left _ _ (by rw [u8s_length, upd_len _ _ _ (by omega)]; omega), u8s_set, upd_set _ _ _ (by omega)] at hbs2
          have hbt2 := hbt.far (p := ⟨gs, k, none⟩) (by show gt ≠ gs; omega) (bv (riseB lw lm 0 k))
          have hfr2 := hfr.setCell (p := ⟨gs, k, none⟩) (fun _ => .inl rfl) (bv (riseB lw lm 0 k))
          have hkn2 : k < n := by have := HL.out; omega
          have hnew : Ris w7 (wr.setCell ⟨gs, k, none⟩ (bv (riseB lw lm 0 k))) gs gt lw lq lm sps (k + 1) := by
            refine ⟨?_, ?_, hfr2⟩
            · rw [show min (k + 1) 256 = k + 1 by omega]; exact hbs2
            · rw [show k + 1 - 256 = k - 256 by omega]; exact hbt2
          clear hbs hbt hfr hbs2 hbt2 hfr2
          go_wp2
          refine wp_region_still_tail 12 (by kernel_rfl) (by kernel_rfl) ?_
          simp only [List.take_succ_cons, List.take_zero, List.drop_succ_cons, List.drop_zero]
          repeat still_step
          refine wpStill_nil ?_
          change wpList _ _ _ _ _ wr.drew
          go_wp2
          go_roundw
          case rel => exact ⟨k + 1, by omega, by omega, by go_num, hnew.drew⟩
          case measure => simp [intI]; omega
        · obtain ⟨j, rfl⟩ : ∃ j, k = 256 + j := ⟨k - 256, by omega⟩
          rw [Nat.add_sub_cancel_left] at hbt
          have hj3 : j < 3 := by omega
          have hlk : j < lq.length := by have := HQL.out; omega
          have hc0 : wr.cell? ⟨gt, j, none⟩ = some (.int .u8 ((bt lq j).toNat : Int)) := by
            rw [hbt.cell, u8s_bt _ _ (by rw [upd_len _ _ _ (by omega)]; omega), upd_bt _ _ _ (by omega)]
          have hz := hbt.frozen j
          have hx : Go.bits .or .u8 ((bt lq j).toNat : Int) ((bt lm (256 + j)).toNat : Int) = ((riseB lq (lm.drop 256) 0 j).toNat : Int) := by
            have hb : bt (lm.drop 256) j = bt lm (256 + j) := by unfold bt; rw [List.getD_eq_getElem?_getD, List.getD_eq_getElem?_getD, List.getElem?_drop]
            rw [u8_or_b]; unfold riseB mk; rw [if_pos (by rw [List.length_drop]; have := HLM.out; omega), hb]
          have hbt2 := hbt.set_ j (bv (riseB lq (lm.drop 256) 0 j))
          rw [u8s_set, upd_set _ _ _ (by omega)] at hbt2
          have hbs2 := hbs.far (p := ⟨gt, j, none⟩) (by show gs ≠ gt; omega) (bv (riseB lq (lm.drop 256) 0 j))
          have hfr2 := hfr.setCell (p := ⟨gt, j, none⟩) (fun _ => .inr rfl) (bv (riseB lq (lm.drop 256) 0 j))
          have hsub : 256 + (j : Int) - 256 = j := by omega
          have hnew : Ris w7 (wr.setCell ⟨gt, j, none⟩ (bv (riseB lq (lm.drop 256) 0 j))) gs gt lw lq lm sps (256 + j + 1) := by
            refine ⟨?_, ?_, hfr2⟩
            · rw [show min (256 + j + 1) 256 = 256 by omega]; rw [show min (256 + j) 256 = 256 by omega] at hbs2; exact hbs2
            · rw [show 256 + j + 1 - 256 = j + 1 by omega]; exact hbt2
          clear hbs hbt hfr hbs2 hbt2 hfr2
          go_wp2
          refine wp_region_still_tail 14 (by kernel_rfl) (by kernel_rfl) ?_
          simp only [List.take_succ_cons, List.take_zero, List.drop_succ_cons, List.drop_zero]
          have hw : IntKind.i64.wrap (256 + (j : Int) - 256) = j := by rw [hsub]; exact IntWalk.i64_in _ ⟨by omega, by omega⟩
          have hj4 : (j : Int) < 3 := by omega
          have hw2 : IntKind.i64.wrap (j : Int) = j := IntWalk.i64_in _ ⟨by omega, by omega⟩
          have h2a : 0 ≤ 256 + (j : Int) := by omega
          have h2b : (256 + (j : Int)).toNat = 256 + j := by omega
          clear hsub
          repeat still_step
          refine wpStill_nil ?_
          change wpList _ _ _ _ _ wr.drew
          clear hw hw2 h2a h2b
          go_wp2
          go_roundw
          case rel => exact ⟨256 + j + 1, by omega, by omega, by go_num, hnew.drew⟩
          case measure => simp [intI]; omega
      · obtain ⟨hbs, hbt, hfr⟩ := hris
        have hl256 : lw.length = 256 := by rw [HL.out, HN.out]
        rw [upd_rise lw lm (min k 256) (by omega) (by have := HLM.out; omega)] at hbs
        rw [upd_rise lq (lm.drop 256) (k - 256) (by have := HQL.out; omega) (by have := HLM.out; have := HQL.out; rw [List.length_drop]; omega)] at hbt
        by_cases hkk : k < n1
        all_goals
          go_wp2
          go_meet
          exact ⟨hbs, hbt, hfr⟩
  case rest =>
    generalize wc = w8 at *
    obtain ⟨hbs, hbt, hfr⟩ := hcut
    have hl256 : lw.length = 256 := by rw [HL.out, HN.out]
    obtain ⟨l', g', k2, e', hFx, hg', hR⟩ := rises lw (riseR lw lm 0) (num3 (riseR lq (lm.drop 256) 0)) hl256 (by rw [riseR_len]; exact hl256) (num3_lt _) (fun q => by have h := cb_rise lw lq lm (lm.drop 256) HQL.out q; rw [HQN.out] at h; exact h)
    obtain ⟨t0, t1, t2, ht⟩ := tri_eq (num3 (riseR lq (lm.drop 256) 0))
    have hut : u8s (riseR lq (lm.drop 256) 0) = [.int .u8 t0, .int .u8 t1, .int .u8 t2] := by rw [← triC_num3 _ (by rw [riseR_len]; exact HQL.out), ht]
    obtain ⟨p0, p1, p2, hp⟩ := tri_eq g'
    have hL2 : (riseR lw lm 0).length = n := by rw [riseR_len, HL.out]
    have hTl := num3_lt (riseR lq (lm.drop 256) 0)
    have hF := fun A' c' wx hr' hT' => Fix256 A' n c' (riseR lw lm 0) (num3 (riseR lq (lm.drop 256) 0)) l' g' k2 e' t0 t1 t2 p0 p1 p2 wx hL2 HN.out hr' hTl hT' hFx ht hp
    rw [hut] at hbt
    have rS : Rd w8 (some ⟨gs, 0, none⟩) (u8s (riseR lw lm 0)) := Rd.of_blk hbs
    have bz : Below w.heap.size w w8 := below_frm b7 b7.size hfr (fun q hq => by rcases hq with rfl | rfl <;> omega)
    have kSz : Blk w8 GS 23 [.int .u8 x0, .int .u8 x1, .int .u8 x2] := kS7.frm hfr (fun h => by rcases h with h | h <;> omega)
    have rAz : Rd w8 A (u8s lw) := r7.frm hfr (fun ad e h => by have := hAb ad e; rcases h with h | h <;> omega)
    generalize riseR lw lm 0 = L at *
    generalize num3 (riseR lq (lm.drop 256) 0) = T at *
    have HR := Lib.hid hR
    have HTT := Lib.hid ht
    have HP := Lib.hid hp
    have HL2 := Lib.hid hL2
    have HGP := Lib.hid hg'
    have HTL := Lib.hid hTl
    clear hbs hfr hl256 hFx hg' hR ht hut hp hL2 hTl r7 kS7 ks kt b7 hgs2
    go_upto_region 13 with fail
    go_cut [11, 12, 13, 14] (fun a b c d wx => FixT w8 wx l' k2 e' p0 p1 p2 a b c d)
    case first =>
      have hGl := hbt.lt
      have kd' : Blk w8.drew gt 5 [.int .u8 t0, .int .u8 t1, .int .u8 t2] := hbt
      obtain ⟨d0, d1, d2⟩ := cells3 hbt
      go_region_held3 (fun wx => wx.cell? ⟨gt, 0, none⟩ = some (.int .u8 t0) ∧ wx.cell? ⟨gt, 1, none⟩ = some (.int .u8 t1) ∧ wx.cell? ⟨gt, 2, none⟩ = some (.int .u8 t2)) (first | exact cells3 (by assumption) | exact cells3 (Blk.alloc (by assumption) _) | exact cells3 (far3 _ _ _ (by assumption) (by assumption)) | go_keep) (first
        | (go_at_call 9; first
            | ((with_reducible refine (marked_any (some ⟨gs, 0, none⟩) n cps L _ HL2.out rS.drew (by omega)).mono ?_); rintro e w5 ⟨g5, cp5, sp5, rfl, hg5, hcp5, hgs5, b5⟩; have q5 : Below w8.heap.size w8 w5 := ⟨b5.os, b5.tape, b5.output, b5.size, b5.block⟩)
            | ((with_reducible refine (marked_any (some ⟨gs, 0, none⟩) n cps L _ HL2.out (rS.alloc _).drew (by omega)).mono ?_); rintro e w5 ⟨g5, cp5, sp5, rfl, hg5, hcp5, hgs5, b5⟩; have q5 : Below w8.heap.size w8 w5 := ((Below.refl _ w8).alloc (Nat.le_refl _) (.cells #[.int .u8 0, .int .u8 0, .int .u8 0] 23)).trans (Below.mono ⟨b5.os, b5.tape, b5.output, b5.size, b5.block⟩ (by simp)); have zb : Blk w5 w8.heap.size 23 [.int .u8 0, .int .u8 0, .int .u8 0] := ((Blk.new w8 23 [.int .u8 0, .int .u8 0, .int .u8 0]).drew).bel b5)
           have k5 := hbt.bel q5; clear b5; dsimp only)
        | (go_at_call 10; first
            | ((with_reducible refine (hF _ _ _ (Rd.of_blk (mks_ins hg5)) (HT.out.below (bz.trans (q5.mono bz.size)))).mono ?_); rintro e w6 ⟨v6, sp6, rfl, o6, f6, b6⟩; have q6 : Below w8.heap.size w8 w6 := q5.trans (b6.mono q5.size); have hv6 : ∀ k, v6.ownBlock = some k → w5.heap.size ≤ k := f6; (try (have zb6 := zb.bel b6; have hne6 : gt ≠ w8.heap.size := (by omega))))
            | ((with_reducible refine (hF _ _ _ ((Rd.of_blk (mks_ins hg5)).alloc _) (HT.out.below ((bz.trans (q5.mono bz.size)).alloc (Nat.le_trans bz.size q5.size) _))).mono ?_); rintro e w6 ⟨v6, sp6, rfl, o6, f6, b6⟩; have q6 : Below w8.heap.size w8 w6 := (q5.alloc q5.size _).trans (b6.mono (by have := q5.size; simp at this ⊢; omega)); have hv6 : ∀ k, v6.ownBlock = some k → w5.heap.size + 1 ≤ k := (fun k hk => (by have := f6 k hk; simpa using this)); have zb6 : Blk w6 w5.heap.size 23 [.int .u8 0, .int .u8 0, .int .u8 0] := (Blk.new w5 23 [.int .u8 0, .int .u8 0, .int .u8 0]).bel b6; have hne6 : gt ≠ w5.heap.size := (by have := q5.size; omega))
           have k6 := hbt.bel q6; (try (obtain ⟨t0, t1, t2⟩ := cells3 zb6; have z0 := zb6.frozen 0; have z1 := zb6.frozen 1; have z2 := zb6.frozen 2)); dsimp only))
      all_goals
        (first
        | (obtain ⟨w9, hw9⟩ : ∃ w9, w9 = w6.alloc (.cells #[.int .u8 p0, .int .u8 p1, .int .u8 p2] 23) := ⟨_, rfl⟩
           rw [← hw9]
           have k99 : Blk w9 w6.heap.size 23 [.int .u8 p0, .int .u8 p1, .int .u8 p2] := by rw [hw9]; exact Blk.new w6 _ _
           have q9 : Below w8.heap.size w8 w9 := by rw [hw9]; exact q6.alloc q6.size _
           have o9 : Own w9 5 1 v6 (l'.length) (u8s l') sp6 := by rw [hw9]; exact o6.alloc _
           have hne9 : w8.heap.size ≤ w6.heap.size := q6.size
           obtain ⟨G99, hG9⟩ : ∃ q, q = w6.heap.size := ⟨_, rfl⟩
           (try rw [← hG9] at k99 ⊢)
           replace hne9 : w8.heap.size ≤ G99 := by omega
           clear hG9 hw9)
        | (obtain ⟨w9, hw9⟩ : ∃ w9, w9 = (((w6.setCell ⟨w5.heap.size, 0, none⟩ (.int .u8 p0)).setCell ⟨w5.heap.size, 1, none⟩ (.int .u8 p1)).setCell ⟨w5.heap.size, 2, none⟩ (.int .u8 p2)) := ⟨_, rfl⟩
           rw [← hw9]
           obtain ⟨k99, q9, o9⟩ := set3 p0 p1 p2 zb6 q6 q5.size o6 (fun k hk => by have := hv6 k hk; omega)
           have hne9 : w8.heap.size ≤ w5.heap.size := q5.size
           rw [← hw9] at k99 q9 o9
           obtain ⟨G99, hG9⟩ : ∃ q, q = w5.heap.size := ⟨_, rfl⟩
           (try rw [← hG9] at k99 ⊢)
           replace hne9 : w8.heap.size ≤ G99 := by omega
           clear hG9 hw9)
        | (obtain ⟨w9, hw9⟩ : ∃ w9, w9 = (((w6.setCell ⟨w8.heap.size, 0, none⟩ (.int .u8 p0)).setCell ⟨w8.heap.size, 1, none⟩ (.int .u8 p1)).setCell ⟨w8.heap.size, 2, none⟩ (.int .u8 p2)) := ⟨_, rfl⟩
           rw [← hw9]
           obtain ⟨k99, q9, o9⟩ := set3 p0 p1 p2 zb6 q6 (Nat.le_refl _) o6 (fun k hk => by have := hv6 k hk; have := zb.lt; omega)
           have hne9 : w8.heap.size ≤ w8.heap.size := Nat.le_refl _
           rw [← hw9] at k99 q9 o9
           obtain ⟨G99, hG9⟩ : ∃ q, q = w8.heap.size := ⟨_, rfl⟩
           (try rw [← hG9] at k99 ⊢)
           replace hne9 : w8.heap.size ≤ G99 := by omega
           clear hG9 hw9))
        obtain ⟨A9, c9, rfl, _, r9⟩ := o9.rd
        try clear t0 t1 t2 z0 z1 z2
        try clear zb6
        try clear zb
        try clear hne6
        clear kd' hGl d0 d1 d2 hgs5 hcp5 k6 hv6 o9 o6 f6 q6 q5 b6 k5 hg5


        go_wp2_with fail
        go_meet
        exact ⟨_, _, _, rfl, rfl, rfl, rfl, r9, k99, q9⟩
    case rest =>
      generalize wc = w9 at *
      obtain ⟨A9, c9, G99, rfl, rfl, rfl, rfl, r9, k99, q9⟩ := hcut
      have rL := rAz.below q9
      have rS9 := rS.below q9
      have kL := kSz.bel q9
      have kT := hbt.bel q9
      have bF := bz.trans (q9.mono bz.size)
      obtain ⟨f0, f1, f2⟩ := cells3 k99
      obtain ⟨d0, d1, d2⟩ := cells3 kL
      obtain ⟨s0, s1, s2⟩ := cells3 kT
      have hs1 : ∀ (k c : Nat), (convert 22 9 (.slice (some ⟨gs, 0, none⟩) n c)).run Tryd.prog (w9.drewN k) = .ok (.string ⟨L.toArray⟩) (w9.drewN k) := fun k c => rd_string 22 9 5 Tryd.underlying22 Tryd.underlying5 Tryd.underlying9 HL2.out (rS9.drewN k)
      have hs2 : ∀ (k c : Nat), (convert 22 9 (.slice A n c)).run Tryd.prog (w9.drewN k) = .ok (.string ⟨lw.toArray⟩) (w9.drewN k) := fun k c => rd_string 22 9 5 Tryd.underlying22 Tryd.underlying5 Tryd.underlying9 HL.out (rL.drewN k)
      clear hF rAz rS kSz hbt bz q9 hgs hN3 hAb
      rcases HR.out with ⟨rfl, hne, rfl, rfl⟩ | ⟨rfl, rfl, rfl, hk1⟩ | ⟨rfl, hne, hll, hzz⟩
      · clear f0 f1 f2
        go_wp2
        by_cases hLL : L = lw
        · have htx : ¬ (t0 = x0 ∧ t1 = x1 ∧ t2 = x2) := fun ⟨h1, h2, h3⟩ => hne ⟨hLL, triC_inj HTL.out (sumN_lt lw) (by rw [HTT.out, HX.out, h1, h2, h3])⟩
          clear hne
          rw [hLL] at hs1
          clear hLL
          by_cases h0 : t0 = x0
          · rw [h0] at s0
            by_cases h1 : t1 = x1
            · have h2 : (t2 != x2) = true := by rw [bne_iff_ne]; exact fun h2 => htx ⟨h0, h1, h2⟩
              rw [h1] at s1
              clear htx h0 h1
              go_quiet (fail)
              go_wp2
              go_ret
              exact ⟨rfl, bel_drewN bF _⟩
            · clear htx h0
              go_quiet (fail)
              go_wp2
              go_ret
              exact ⟨rfl, bel_drewN bF _⟩
          · clear htx
            go_quiet (fail)
            go_wp2
            go_ret
            exact ⟨rfl, bel_drewN bF _⟩
        · clear hne
          go_quiet (fail)
          go_wp2
          go_ret
          exact ⟨rfl, bel_drewN bF _⟩
      · have hpp := HP.out
        rw [HX.out] at hpp
        simp only [List.cons.injEq, Value.int.injEq, true_and, and_true] at hpp
        obtain ⟨rfl, rfl, rfl⟩ := hpp
        have hq := eq_arr3_self x0 x1 x2
        have hll := HL.out
        have hnn : ((n : Nat) : Int) = 256 := by have := HN.out; omega
        rw [hll]
        have e1 : (convert 22 9 (.slice A9 n c9)).run Tryd.prog w9 = .ok (.string ⟨l'.toArray⟩) w9 := rd_string 22 9 5 Tryd.underlying22 Tryd.underlying5 Tryd.underlying9 HL.out r9
        have e2 := hs2 0 cap
        rw [show w9.drewN 0 = w9 from rfl] at e2
        clear hll hs1 hs2 s0 s1 s2
        go_wp2
        go_ret
        exact ⟨rfl, bF⟩
      · have hl3 : l'.length = n := by rw [hll, HN.out]
        have hnn : ((n : Nat) : Int) = 256 := by have := HN.out; omega
        obtain ⟨lp, hlp, hnp⟩ := tri_num3 g' HGP.out
        have hup : u8s lp = [.int .u8 p0, .int .u8 p1, .int .u8 p2] := by rw [← triC_num3 lp hlp, hnp, HP.out]
        rw [← hnp, ← HQN.out, zf_cb, zf_cb] at hzz
        have hZ1 := fun wx hr' => refzeros_any A9 n c9 l' wx hl3 hr' (by omega)
        have hZ2 := fun A' c' wx hr' => refzeros_any A' 3 c' lp wx hlp hr' (by omega)
        have hZ3 := fun wx hr' => refzeros_any A n cap lw wx HL.out hr' (by omega)
        have hZ4 := fun A' c' wx hr' => refzeros_any A' 3 c' lq wx HQL.out hr' (by omega)
        rw [hup] at hZ2
        rw [HUQ.out] at hZ4
        have h8 : 8 * n = 2048 := by have := HN.out; omega
        rw [h8] at hZ1 hZ3
        rw [show 8 * 3 = 24 from rfl] at hZ2 hZ4
        have z1 := zc_le l' 2048
        have z2 := zc_le lp 24
        have z3 := zc_le lw 2048
        have z4 := zc_le lq 24
        have e1 : (convert 22 9 (.slice A9 n c9)).run Tryd.prog w9 = .ok (.string ⟨l'.toArray⟩) w9 := rd_string 22 9 5 Tryd.underlying22 Tryd.underlying5 Tryd.underlying9 hl3 r9
        have e2 := hs2 0 cap
        rw [show w9.drewN 0 = w9 from rfl] at e2
        have hlt : ((zc l' 2048 : Nat) : Int) + (zc lp 24 : Nat) < (zc lw 2048 : Nat) + (zc lq 24 : Nat) := by omega
        generalize zc l' 2048 = c1 at *
        generalize zc lp 24 = c2 at *
        generalize zc lw 2048 = c3 at *
        generalize zc lq 24 = c4 at *
        have HNE := Lib.hid hne
        have HLL := Lib.hid hl3
        clear hne hzz hll hlp hnp hup h8 hs1 hs2 s0 s1 s2 hl3
        rw [HLL.out]
        have key : l' = lw → ∀ w, (Op.equalIn 10000 23 (.agg #[.int .u8 p0, .int .u8 p1, .int .u8 p2]) (.agg #[.int .u8 x0, .int .u8 x1, .int .u8 x2])).run Tryd.prog w = .ok false w := fun h =>
          eq_arr3_ne _ _ _ _ _ _ (fun ⟨h1, h2, h3⟩ => HNE.out ⟨h, triC_inj HGP.out (sumN_lt lw) (by rw [HP.out, HX.out, h1, h2, h3])⟩)
        by_cases hLL : l' = lw
        all_goals
          try (have hq := key hLL
               rw [hLL] at e1
               clear hLL)
          clear key
          go_wp2
          clear e1 e2
          go_region_held3 (fun wx => (wx.cell? ⟨G99, 0, none⟩ = some (.int .u8 p0) ∧ wx.cell? ⟨G99, 1, none⟩ = some (.int .u8 p1) ∧ wx.cell? ⟨G99, 2, none⟩ = some (.int .u8 p2)) ∧ wx.cell? ⟨GS, 0, none⟩ = some (.int .u8 x0) ∧ wx.cell? ⟨GS, 1, none⟩ = some (.int .u8 x1) ∧ wx.cell? ⟨GS, 2, none⟩ = some (.int .u8 x2)) (first | exact cells33 k99 kL | exact cells33 (k99.alloc _) (kL.alloc _) | exact cells33 ((k99.alloc _).alloc _) ((kL.alloc _).alloc _) | go_keep) (first
            | (go_at_call 18; first
                | ((with_reducible refine (hZ1 _ ?_).mono ?_); (first | exact r9 | exact r9.alloc _ | exact (r9.alloc _).alloc _); rintro e w' ⟨rfl, rfl⟩)
                | ((with_reducible refine (hZ3 _ ?_).mono ?_); (first | exact rL | exact rL.alloc _ | exact (rL.alloc _).alloc _); rintro e w' ⟨rfl, rfl⟩)
                | ((with_reducible refine (hZ2 _ _ _ ?_).mono ?_); (first | exact rd_new _ _ _ | exact (rd_new _ _ _).alloc _ | exact rd_new2 _ _ _ _); rintro e w' ⟨rfl, rfl⟩)
                | ((with_reducible refine (hZ4 _ _ _ ?_).mono ?_); (first | exact rd_new _ _ _ | exact (rd_new _ _ _).alloc _ | exact rd_new2 _ _ _ _); rintro e w' ⟨rfl, rfl⟩)
               dsimp only))
          all_goals
            go_wp2
            go_ret
            refine ⟨?_, ?_⟩
            · show Ending.returned (Value.bool (decide (IntKind.i64.wrap ((c1 : Int) + c2) < IntKind.i64.wrap ((c3 : Int) + c4)))) = _
              rw [IntWalk.i64_in ((c1 : Int) + c2) ⟨by omega, by omega⟩, IntWalk.i64_in ((c3 : Int) + c4) ⟨by omega, by omega⟩, decide_eq_true hlt]
            first | exact (bF.alloc bF.size _).alloc (bF.alloc bF.size _).size _ | exact bel_drew ((bF.alloc bF.size _).alloc (bF.alloc bF.size _).size _)
end Go.Proofs.YtafjnkmfebibfaaDoor

