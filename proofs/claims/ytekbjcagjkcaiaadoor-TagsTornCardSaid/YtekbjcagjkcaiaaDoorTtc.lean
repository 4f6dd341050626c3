/- The law TagsTorn: its walk. -/
import Derived.Test.YtekbjcagjkcaiaaDoorTtb
import Derived.Test.YtekbjcagjkcaiaaDoorTUc
namespace Go.Proofs.YtekbjcagjkcaiaaDoor
open Go.RowKit
set_option linter.unusedVariables false
set_option linter.unusedSimpArgs false
theorem rest_of (a : Int) : (0 ≤ a.tmod 432 → a.tmod 432 = ((restN a 432 : Nat) : Int)) ∧ (a.tmod 432 < 0 → a.tmod 432 + 432 = ((restN a 432 : Nat) : Int)) ∧ -432 < a.tmod 432 ∧ a.tmod 432 < 432 := by
  unfold restN
  have h1 := Int.emod_nonneg a (show (432 : Int) ≠ 0 by omega)
  have h2 := Int.emod_lt_of_pos a (show (0 : Int) < 432 by omega)
  have e := Int.tmod_eq_emod (a := a) (b := 432)
  split at e
  · rw [e]; refine ⟨fun _ => ?_, fun _ => ?_, ?_, ?_⟩ <;> omega
  · rw [e]; refine ⟨fun _ => ?_, fun _ => ?_, ?_, ?_⟩ <;> omega
set_option maxRecDepth 100000 in
set_option maxHeartbeats 6400000 in
theorem ttorn_walk (w : World) (x0 x1 x2 x3 x4 x5 x6 x7 : Int) (h0 : -9223372036854775808 ≤ x0 ∧ x0 ≤ 9223372036854775807) (h1 : -9223372036854775808 ≤ x1 ∧ x1 ≤ 9223372036854775807) (h2 : 0 ≤ x2 ∧ x2 ≤ 18446744073709551615) (h3 : 0 ≤ x3 ∧ x3 ≤ 18446744073709551615) (h4 : -9223372036854775808 ≤ x4 ∧ x4 ≤ 9223372036854775807) (h5 : -9223372036854775808 ≤ x5 ∧ x5 ≤ 9223372036854775807) (h6 : -9223372036854775808 ≤ x6 ∧ x6 ≤ 9223372036854775807) (h7 : -9223372036854775808 ≤ x7 ∧ x7 ≤ 9223372036854775807) (A : Option Addr) (n cap : Nat) (lm : List UInt8) (hl : lm.length = n) (hr : Rd w A (u8s lm)) (hm : n ≤ 140737488351232) (up : Bool) (a : Int) (ha1 : -9223372036854775808 ≤ a) (ha2 : a ≤ 9223372036854775807) (b' : Int) (hb1 : -9223372036854775808 ≤ b') (hb2 : b' ≤ 9223372036854775807) (hT : LayT w ∧ SpT w) :
    Calls Tryd.prog 7 #[.agg #[.int .i64 x0, .int .i64 x1, .int .u64 x2, .int .u64 x3, .int .i64 x4, .int .i64 x5, .int .i64 x6, .int .i64 x7], .slice A n cap, .bool up, .int .i64 a, .int .i64 b'] w fun e w' => e = .returned (.bool true) ∧ Below w.heap.size w w' := by
  have hL := hT.1
  have hS := hT.2
  have HL := Lib.hid hL
  have HS := Lib.hid hS
  have HR := Lib.hid hr
  have HLM := Lib.hid hl
  obtain ⟨w1, hw1⟩ : ∃ x, x = w.alloc (.cells #[.int .i64 x0, .int .i64 x1, .int .u64 x2, .int .u64 x3, .int .i64 x4, .int .i64 x5, .int .i64 x6, .int .i64 x7] 25) := ⟨_, rfl⟩
  have b : Below w.heap.size w w1 := by rw [hw1]; exact (Below.refl _ w).alloc (Nat.le_refl _) _
  have kt : Blk w1 w.heap.size 25 [.int .i64 x0, .int .i64 x1, .int .u64 x2, .int .u64 x3, .int .i64 x4, .int .i64 x5, .int .i64 x6, .int .i64 x7] := by rw [hw1]; exact Blk.new w _ _
  have hh := heads_any w1 (hL.below b) (hS.below b)
  obtain ⟨G, hG⟩ : ∃ G, G = w.heap.size := ⟨_, rfl⟩
  have HG := Lib.hid hG
  rw [← hG] at kt
  clear hT hL hS hr hl
  by_cases hf : FitI x0 x1 x2 x3 x4 x5 x6 x7
  · obtain ⟨LB, l1, l2, pk, ly, rr, lf⟩ := back_fit x0 x1 x2 x3 x4 x5 x6 x7 hf
    have LY := Lib.hid ly
    have LF := Lib.hid lf
    have LN := Lib.hid l2
    have htr := torn_read (l := LB) (T := tornR up (layB LB) lm) (up := up) (by omega) (by rw [tornR_len, layB_len]) (fun N hN => torn_bits up (layB LB) lm N (by rw [layB_len]; exact hN))
    rw [l1] at htr
    have hfl := fun i (hi : i < 432) => read_flip LB i (by omega) (by omega)
    have hfs := fun i j (hi : i < 432) (hj : j < 432) (h : i ≠ j) => read_flips LB i j (by omega) (by omega) (by omega) h
    have hfz := read_lay LB (by omega)
    obtain ⟨L, hLe⟩ : ∃ L, L = layB LB := ⟨_, rfl⟩
    rw [← hLe] at LY LN htr hfl hfs hfz
    have HTR := Lib.hid htr
    have HFL := Lib.hid hfl
    have HFS := Lib.hid hfs
    have HFZ := Lib.hid hfz
    obtain ⟨m, hmm⟩ : ∃ m, m = min 54 n := ⟨_, rfl⟩
    have hm54 : m ≤ 54 := by omega
    have hmn : m ≤ n := by omega
    have hmx : m = 54 ∨ m = n := by omega
    have HMX := Lib.hid hmx
    clear pk ly rr lf hf h0 h1 h2 h3 h4 h5 h6 h7 l1 l2 htr hfl hfs hfz hLe hmm hmx
    go_enter Tryd.func7, Tryd.ntmps7
    go_wp2_with fail
    rw [← hw1, ← hG]
    clear hw1 hG
    with_reducible refine hh.mono ?_
    rintro e w2 ⟨rfl, b2⟩
    replace kt := kt.frm (ex := fun _ => False) (Frm.of_below b2) id
    replace b := b.trans (b2.mono b.size)
    clear b2 hh
    have c0 : w2.cell? ⟨G, 0, none⟩ = some (.int .i64 x0) := kt.cell 0
    have c1 : w2.cell? ⟨G, 1, none⟩ = some (.int .i64 x1) := kt.cell 1
    have c2 : w2.cell? ⟨G, 2, none⟩ = some (.int .u64 x2) := kt.cell 2
    have c3 : w2.cell? ⟨G, 3, none⟩ = some (.int .u64 x3) := kt.cell 3
    have c4 : w2.cell? ⟨G, 4, none⟩ = some (.int .i64 x4) := kt.cell 4
    have c5 : w2.cell? ⟨G, 5, none⟩ = some (.int .i64 x5) := kt.cell 5
    have c6 : w2.cell? ⟨G, 6, none⟩ = some (.int .i64 x6) := kt.cell 6
    have c7 : w2.cell? ⟨G, 7, none⟩ = some (.int .i64 x7) := kt.cell 7
    have ktl := kt.lt
    go_wp2_with fail
    with_reducible refine (LY.out _ (HL.out.below b) (HS.out.below b)).mono ?_
    rintro e w3 ⟨A2, q2, s2, rfl, o2, f2, b2⟩
    replace kt := kt.frm (ex := fun _ => False) (Frm.of_below b2) id
    obtain ⟨_, _, er, _, r2⟩ := o2.rd
    cases er
    have low2 : ∀ q, (Value.slice A2 54 q2).ownBlock = some q → w.heap.size ≤ q := fun q hq => Nat.le_trans b.size (f2 q hq)
    have g2 : ∀ q, (Value.slice A2 54 q2).ownBlock = some q → q ≠ G := fun q hq e => by have := f2 q hq; omega
    replace b := b.trans (b2.mono b.size)
    clear b2 f2
    clear c0 c1 c2 c3 c4 c5 c6 c7
    go_upto_block 0 with (first | (at_builtin; have re := (show Rd w3 A2 (u8s L) from r2).below ((Below.refl w3.heap.size w3).alloc (Nat.le_refl _) (.cells #[] 5)); refine wpList_appx _ rfl (.tmp 35) (.tmp 36) 22 rfl 5 _ 1 1 Tryd.underlying22 info5 rfl (by decide) rfl (owx_empty w3 5) rfl (by rw [u8s_length, LN.out]) re (one_u8s _) (by unfold maxLen; omega) (by omega) ?_; intro v2 w4 sp3 o3 y2; simp only [Nat.zero_add, List.nil_append] at o3; obtain ⟨f3, b2⟩ := copy_new y2; obtain ⟨A3, q3, rfl, _, _⟩ := o3.rd; have d23 : ∀ q, (Value.slice A2 54 q2).ownBlock = some q → (Value.slice A3 54 q3).ownBlock ≠ some q := (fun q hq hq2 => by have h8 := f3 q hq2; have h9 := o2.lt q hq; omega); have low3 : ∀ q, (Value.slice A3 54 q3).ownBlock = some q → w.heap.size ≤ q := (fun q hq => Nat.le_trans b.size (f3 q hq)); have g3 : ∀ q, (Value.slice A3 54 q3).ownBlock = some q → q ≠ G := (fun q hq e => by have h8 := f3 q hq; have h9 := kt.lt; omega); replace kt := kt.frm (ex := fun _ => False) (Frm.of_below b2) id; replace o2 := o2.bel b2; have r4 := r2.below b2; replace b := b.trans (b2.mono b.size); clear re y2 b2) | (go_at_call 13; (with_reducible refine (no_any _ _).mono ?_); rintro e w' ⟨rfl, rfl⟩))
    go_cut [14] (fun c wr => c = .int .i64 ((apTo L (tornR up L lm) (8 * 54) : Nat) : Int) ∧ Owx wr 5 1 (.slice A3 54 q3) 54 (u8s (tornR up L lm)) sp3 ∧ Frm (fun q => (Value.slice A3 54 q3).ownBlock = some q) w4 wr)
    case first =>
     go_wp2_with fail
     go_loopw [14, 15] (fun c i wr => ∃ k : Nat, k ≤ m ∧ i = .int .i64 k ∧ c = .int .i64 ((apTo L (tornR up L lm) (8 * k) : Nat) : Int) ∧ Owx wr 5 1 (.slice A3 54 q3) 54 (u8s (upd (tornB up L lm) L k)) sp3 ∧ Frm (fun q => (Value.slice A3 54 q3).ownBlock = some q) w4 wr) (fun _ i _ => m - (intI i))
     case atStart => exact ⟨0, by omega, rfl, rfl, by rw [upd_zero]; exact o3, Frm.refl _ _⟩
     case round =>
       clear o3
       obtain ⟨k, hk, rfl, rfl, ho, hfr⟩ := hrel
       by_cases hlt : k < m
       · have hd1 : decide ((k : Int) < 54) = true := by simp; omega
         have hd2 : decide ((k : Int) < (n : Int)) = true := by simp; omega
         have hk54 : k < 54 := by omega
         have hk54i : (k : Int) < 54 := by omega
         have hkn : k < n := by omega
         have hkl : k < L.length := by have := LN.out; omega
         obtain ⟨g, rfl, hc0, hz, hput⟩ := ho.put hk54
         obtain ⟨tb, htb⟩ : ∃ tb, tb = tornB up L lm k := ⟨_, rfl⟩
         have hnew := (hput tb).drew
         rw [htb, upd_set _ _ _ hkl, ← htb] at hnew
         have hfn := (hfr.setCell (p := ⟨g, k, none⟩) (fun _ => rfl) (.int .u8 (tb.toNat : Int))).drew
         have hrl : Rd wr A2 (u8s L) := r4.frm2 r2 hfr f3
         have hrk : Rd wr A (u8s lm) := (HR.out.below b).frm2 HR.out hfr low3
         have hrl2 := r4.frm2 r2 hfn f3
         obtain ⟨ad, rfl, hc1⟩ := hrl.at_ (k := k) (u8s_bt L k hkl)
         obtain ⟨ad1, rfl, hc2⟩ := hrk.at_ (k := k) (u8s_bt lm k (by have := HLM.out; omega))
         obtain ⟨_, er, hc3⟩ := hrl2.at_ (k := k) (u8s_bt L k hkl)
         cases er
         have hTk : bt (tornR up L lm) k = tb := by unfold tornR; rw [bt_gen _ _ _ hkl, htb]
         have HTK := Lib.hid hTk
         have hmk : mk lm 0 k = bt lm k := by unfold mk; rw [if_pos (by have := HLM.out; omega)]
         have hgv : (wr.setCell ⟨g, k, none⟩ (.int .u8 (tb.toNat : Int))).drew.cell? ⟨g, k, none⟩ = some (.int .u8 (tb.toNat : Int)) := by
           obtain ⟨g', hg', hcc, _, _⟩ := hnew.put hk54
           cases hg'
           rw [show bt (upd (tornB up L lm) L (k + 1)) k = tb by unfold upd bt; rw [List.getD_eq_getElem?_getD, List.getElem?_append_left (by rw [gen_len]; omega)]; have := bt_gen (tornB up L lm) (k + 1) k (by omega); unfold bt at this; rw [List.getD_eq_getElem?_getD] at this; rw [this, htb]] at hcc
           exact hcc
         clear hput ho hfr hTk hrl hrk hrl2
         cases up with
           | true =>
             have hval : Go.bits .or .u8 ((bt L k).toNat : Int) ((bt lm k).toNat : Int) = (tb.toNat : Int) := by
               rw [htb]; unfold tornB; simp only [if_true, riseB]; rw [hmk]; exact u8_or_b _ _
             clear htb hmk
             go_upto_region 14 with fail
             refine wp_region_still_tail 12 (by kernel_rfl) (by kernel_rfl) ?_
             simp only [List.take_succ_cons, List.take_zero, List.drop_succ_cons, List.drop_zero]
             repeat still_step
             refine wpStill_nil ?_
             change wpList _ _ _ _ _ wr.drew
             go_wp2
             clear hval hc0 hz hd1 hd2 hc1 hc2
             obtain ⟨ws, hws⟩ : ∃ ws, ws = (wr.setCell ⟨g, k, none⟩ (.int .u8 (tb.toNat : Int))).drew := ⟨_, rfl⟩
             rw [← hws] at hnew hfn hgv hc3 ⊢
             clear hws
             go_loopw [14, 16] (fun c i wx => ∃ j md : Nat, j ≤ 8 ∧ i = .int .i64 j ∧ c = .int .i64 ((apTo L (tornR true L lm) (8 * k + j) : Nat) : Int) ∧ wx = ws.drewN md) (fun _ i _ => 8 - (intI i))
             case atStart => exact ⟨0, 0, by omega, rfl, rfl, rfl⟩
             case round =>
               obtain ⟨j, md, hj, rfl, rfl, rfl⟩ := hrel
               by_cases hlt2 : j < 8
               · obtain ⟨x, hx⟩ : ∃ x, x = tb ^^^ bt L k := ⟨_, rfl⟩
                 obtain ⟨v, hv⟩ : ∃ v, v = x.toNat / 2 ^ j % 2 := ⟨_, rfl⟩
                 have hxr : Go.bits .xor .u8 (tb.toNat : Int) ((bt L k).toNat : Int) = (x.toNat : Int) := by rw [hx]; exact u8_xor_b _ _
                 have hxa : Go.bits .and .u8 ((x.toNat : Int) / 2 ^ j) 1 = (v : Int) := by rw [hv]; exact u8_and1 x j
                 have hap : apB L (tornR true L lm) (8 * k + j) = v := by
                   unfold apB
                   rw [show (8 * k + j) / 8 = k by omega, show (8 * k + j) % 8 = j by omega, HTK.out, UInt8.xor_comm, ← hx, hv]
                 have hst : apTo L (tornR true L lm) (8 * k + (j + 1)) = apTo L (tornR true L lm) (8 * k + j) + v := by
                   rw [show 8 * k + (j + 1) = 8 * k + j + 1 from rfl, apTo, hap]
                 have hle := apTo_le L (tornR true L lm) (8 * k + j)
                 have hv2 : v < 2 := by omega
                 have hwk : IntKind.u64.wrap (j : Int) = j := by rw [IntKind.wrap_u64]; omega
                 have HST := Lib.hid hst
                 clear hx hv hst hap
                 by_cases hv1 : v = 1
                 · have hve : ((v : Nat) : Int) = 1 := by omega
                   rw [hv1] at HST
                   clear hv1
                   go_wp2
                   go_quiet (fail)
                   clear hwk
                   go_wp2
                   go_roundw
                   case rel => exact ⟨j + 1, _, by omega, by go_num, by rw [HST.out]; go_num, rfl⟩
                   case measure => simp [intI]; omega
                 · have hve : ¬ ((v : Nat) : Int) = 1 := by omega
                   rw [show v = 0 by omega] at HST
                   clear hv1
                   go_wp2
                   go_quiet (fail)
                   clear hwk
                   go_wp2
                   go_roundw
                   case rel => exact ⟨j + 1, _, by omega, by go_num, by rw [HST.out]; rfl, rfl⟩
                   case measure => simp [intI]; omega
               · obtain rfl : j = 8 := by omega
                 go_wp2
                 go_roundw
                 case rel => exact ⟨k + 1, by omega, by go_num, rfl, hnew.bel (bel_drewN (Below.refl _ _) _), hfn.trans (Frm.of_below (bel_drewN (Below.refl _ _) _))⟩
                 case measure => simp [intI]; omega
           | false =>
             have hval : Go.bits .and .u8 ((bt L k).toNat : Int) (Go.bits .xor .u8 ((bt lm k).toNat : Int) 255) = (tb.toNat : Int) := by
               rw [htb]; unfold tornB; simp only [Bool.false_eq_true, if_false]; rw [hmk, show (255 : Int) = ((255 : UInt8).toNat : Int) from rfl, u8_xor_b, u8_and_b]
             clear htb hmk
             go_upto_region 15 with fail
             refine wp_region_still_tail 13 (by kernel_rfl) (by kernel_rfl) ?_
             simp only [List.take_succ_cons, List.take_zero, List.drop_succ_cons, List.drop_zero]
             repeat still_step
             refine wpStill_nil ?_
             change wpList _ _ _ _ _ wr.drew
             go_wp2
             clear hval hc0 hz hd1 hd2 hc1 hc2
             obtain ⟨ws, hws⟩ : ∃ ws, ws = (wr.setCell ⟨g, k, none⟩ (.int .u8 (tb.toNat : Int))).drew := ⟨_, rfl⟩
             rw [← hws] at hnew hfn hgv hc3 ⊢
             clear hws
             go_loopw [14, 16] (fun c i wx => ∃ j md : Nat, j ≤ 8 ∧ i = .int .i64 j ∧ c = .int .i64 ((apTo L (tornR false L lm) (8 * k + j) : Nat) : Int) ∧ wx = ws.drewN md) (fun _ i _ => 8 - (intI i))
             case atStart => exact ⟨0, 0, by omega, rfl, rfl, rfl⟩
             case round =>
               obtain ⟨j, md, hj, rfl, rfl, rfl⟩ := hrel
               by_cases hlt2 : j < 8
               · obtain ⟨x, hx⟩ : ∃ x, x = tb ^^^ bt L k := ⟨_, rfl⟩
                 obtain ⟨v, hv⟩ : ∃ v, v = x.toNat / 2 ^ j % 2 := ⟨_, rfl⟩
                 have hxr : Go.bits .xor .u8 (tb.toNat : Int) ((bt L k).toNat : Int) = (x.toNat : Int) := by rw [hx]; exact u8_xor_b _ _
                 have hxa : Go.bits .and .u8 ((x.toNat : Int) / 2 ^ j) 1 = (v : Int) := by rw [hv]; exact u8_and1 x j
                 have hap : apB L (tornR false L lm) (8 * k + j) = v := by
                   unfold apB
                   rw [show (8 * k + j) / 8 = k by omega, show (8 * k + j) % 8 = j by omega, HTK.out, UInt8.xor_comm, ← hx, hv]
                 have hst : apTo L (tornR false L lm) (8 * k + (j + 1)) = apTo L (tornR false L lm) (8 * k + j) + v := by
                   rw [show 8 * k + (j + 1) = 8 * k + j + 1 from rfl, apTo, hap]
                 have hle := apTo_le L (tornR false L lm) (8 * k + j)
                 have hv2 : v < 2 := by omega
                 have hwk : IntKind.u64.wrap (j : Int) = j := by rw [IntKind.wrap_u64]; omega
                 have HST := Lib.hid hst
                 clear hx hv hst hap
                 by_cases hv1 : v = 1
                 · have hve : ((v : Nat) : Int) = 1 := by omega
                   rw [hv1] at HST
                   clear hv1
                   go_wp2
                   go_quiet (fail)
                   clear hwk
                   go_wp2
                   go_roundw
                   case rel => exact ⟨j + 1, _, by omega, by go_num, by rw [HST.out]; go_num, rfl⟩
                   case measure => simp [intI]; omega
                 · have hve : ¬ ((v : Nat) : Int) = 1 := by omega
                   rw [show v = 0 by omega] at HST
                   clear hv1
                   go_wp2
                   go_quiet (fail)
                   clear hwk
                   go_wp2
                   go_roundw
                   case rel => exact ⟨j + 1, _, by omega, by go_num, by rw [HST.out]; rfl, rfl⟩
                   case measure => simp [intI]; omega
               · obtain rfl : j = 8 := by omega
                 go_wp2
                 go_roundw
                 case rel => exact ⟨k + 1, by omega, by go_num, rfl, hnew.bel (bel_drewN (Below.refl _ _) _), hfn.trans (Frm.of_below (bel_drewN (Below.refl _ _) _))⟩
                 case measure => simp [intI]; omega
       · obtain rfl : k = m := by omega
         rw [torn_cut up L lm k (by have := LN.out; omega) (by have := LN.out; have := HLM.out; have := HMX.out; omega)] at ho
         rw [torn_all up L lm k (by have := LN.out; omega) (by have := LN.out; have := HLM.out; have := HMX.out; omega), LN.out]
         rcases HMX.out with h54 | hkn
         · have hd : ¬ (k : Int) < 54 := by omega
           go_wp2
           go_meet
           exact ⟨rfl, ho, hfr⟩
         · have hd : ¬ (k : Int) < (n : Int) := by omega
           have hd2 : decide ((k : Int) < (n : Int)) = false := decide_eq_false hd
           go_wp2
           all_goals (go_meet; exact ⟨rfl, ho, hfr⟩)
    case rest =>
      obtain ⟨rfl, ho, hfr⟩ := hcut
      generalize wc = wr at *
      have HLM2 := HLM
      obtain ⟨h1, h2⟩ := HTR.out
      rw [show 8 * (2 * 26 + 2) = 8 * 54 from rfl] at h1 h2
      have h3 := la_zero L (tornR up L lm) (8 * 54)
      have h4 := la_pos L (tornR up L lm) (8 * 54)
      have hTl : (tornR up L lm).length = 54 := by rw [tornR_len, LN.out]
      generalize laN L (tornR up L lm) (8 * 54) = la at *
      generalize apTo L (tornR up L lm) (8 * 54) = cn at *
      generalize tornR up L lm = TR at *
      have ht : ∀ A' c' w', Rd w' A' (u8s TR) → LayT w' → Calls Tryd.prog 25 #[.agg #[.int .i64 x0, .int .i64 x1, .int .u64 x2, .int .u64 x3, .int .i64 x4, .int .i64 x5, .int .i64 x6, .int .i64 x7], .slice A' 54 c', .int .i64 ((cn : Nat) : Int)] w' fun e w'' => e = .returned (.bool true) ∧ Below w'.heap.size w' w'' := by
        intro A' c' w' hr' hL'
        by_cases hc : 1 < cn
        · exact told_2 x0 x1 x2 x3 x4 x5 x6 x7 _ (by omega) A' c' TR hTl (h1 hc) w' hr'
        · have h5 := h2 (by omega)
          by_cases hc0 : cn = 0
          · rw [h3 hc0] at h5
            rw [hc0]
            exact told_0 x0 x1 x2 x3 x4 x5 x6 x7 A' c' TR (fun wx hx hy => LF.out A' c' wx TR (-1) hTl h5 hx hy) w' hr' hL'
          · obtain rfl : cn = 1 := by omega
            exact told_1 x0 x1 x2 x3 x4 x5 x6 x7 la (h4 (by omega)) A' c' TR (fun wx hx hy => LF.out A' c' wx TR la hTl h5 hx hy) w' hr' hL'
      have HTD := Lib.hid ht
      replace kt := kt.frm hfr (fun hq => g3 G hq rfl)
      replace o2 := o2.frm hfr d23
      replace b := below_frm b b.size hfr low3
      obtain ⟨_, _, er, _, r5⟩ := ho.rd
      cases er
      clear h1 h2 h3 h4 hTl ht hfr ho r4 low3 g3 d23 f3
      have c0 : wr.cell? ⟨G, 0, none⟩ = some (.int .i64 x0) := kt.cell 0
      have c1 : wr.cell? ⟨G, 1, none⟩ = some (.int .i64 x1) := kt.cell 1
      have c2 : wr.cell? ⟨G, 2, none⟩ = some (.int .u64 x2) := kt.cell 2
      have c3 : wr.cell? ⟨G, 3, none⟩ = some (.int .u64 x3) := kt.cell 3
      have c4 : wr.cell? ⟨G, 4, none⟩ = some (.int .i64 x4) := kt.cell 4
      have c5 : wr.cell? ⟨G, 5, none⟩ = some (.int .i64 x5) := kt.cell 5
      have c6 : wr.cell? ⟨G, 6, none⟩ = some (.int .i64 x6) := kt.cell 6
      have c7 : wr.cell? ⟨G, 7, none⟩ = some (.int .i64 x7) := kt.cell 7
      go_wp2_with fail
      with_reducible refine (HTD.out _ _ _ r5 (HL.out.below b)).mono ?_
      rintro e w6 ⟨rfl, b2⟩
      replace kt := kt.frm (ex := fun _ => False) (Frm.of_below b2) id
      replace o2 := o2.bel b2
      replace b := b.trans (b2.mono b.size)
      clear b2 r5
      clear c0 c1 c2 c3 c4 c5 c6 c7
      obtain ⟨ka1, ka2, ka3, ka4⟩ := rest_of a
      have hia := restN_lt a 432 (by decide)
      generalize restN a 432 = i at *
      go_upto_if 102 with (fail)
      go_cut [17] (fun s wx => s = .int .i64 (i : Int) ∧ wx = w6)
      case first =>
        generalize a.tmod 432 = ra at *
        by_cases hra : 0 ≤ ra
        · have hra2 : ¬ ra < 0 := by omega
          go_wp2
          go_meet
          exact ⟨rfl, rfl⟩
        · have hra2 : ra < 0 := by omega
          go_wp2
          go_meet
          exact ⟨rfl, rfl⟩
      case rest =>
      obtain ⟨rfl, rfl⟩ := hcut
      generalize wc = w6 at *
      clear ka1 ka2 ka3 ka4
      obtain ⟨kb1, kb2, kb3, kb4⟩ := rest_of b'
      have hjb := restN_lt b' 432 (by decide)
      generalize restN b' 432 = j at *
      go_upto_if 108 with (fail)
      go_cut [18] (fun s wx => s = .int .i64 (j : Int) ∧ wx = w6)
      case first =>
        generalize b'.tmod 432 = ra at *
        by_cases hra : 0 ≤ ra
        · have hra2 : ¬ ra < 0 := by omega
          go_wp2
          go_meet
          exact ⟨rfl, rfl⟩
        · have hra2 : ra < 0 := by omega
          go_wp2
          go_meet
          exact ⟨rfl, rfl⟩
      case rest =>
      obtain ⟨rfl, rfl⟩ := hcut
      generalize wc = w6 at *
      clear kb1 kb2 kb3 kb4
      have hfl1 : (flipB L i).length = 54 := by rw [flipB_len, LN.out]
      have hfl2 : (flipB (flipB L i) j).length = 54 := by rw [flipB_len, hfl1]
      have t1 := fun A' c' wx hx hy => told_1 x0 x1 x2 x3 x4 x5 x6 x7 ((i / 2 : Nat) : Int) (by omega) A' c' (flipB L i) (fun wx hx hy => LF.out A' c' wx (flipB L i) _ hfl1 (HFL.out i hia) hx hy) wx hx hy
      have T1 := Lib.hid t1
      have t2 := fun (he : i = j) A' c' wx hx hy => told_0 x0 x1 x2 x3 x4 x5 x6 x7 A' c' (flipB (flipB L i) j) (fun wx hx hy => LF.out A' c' wx (flipB (flipB L i) j) (-1) hfl2 (by rw [← he, flip_twice _ _ (by have := LN.out; omega)]; exact HFZ.out) hx hy) wx hx hy
      have T2 := Lib.hid t2
      have t3 := fun (he : ¬ i = j) A' c' wx hx => told_2 x0 x1 x2 x3 x4 x5 x6 x7 2 (by decide) A' c' (flipB (flipB L i) j) hfl2 (HFS.out i j hia hjb he) wx hx
      have T3 := Lib.hid t3
      have HF1 := Lib.hid hfl1
      clear t1 t2 t3 hfl1 hfl2
      obtain ⟨g, rfl, hc, hz, hput⟩ := o2.put (k := i / 8) (by omega)
      have hxb := xor_bit (bt L (i / 8)) (i % 8) (by omega)
      have hnm : i / 8 < 54 := by omega
      have hnmi : (i : Int) / 8 < 54 := by omega
      have hbt8 := (bt L (i / 8)).toNat_lt
      have hnew := hput (flipBit (bt L (i / 8)) (i % 8))
      have hfr := (Frm.refl (fun q => (Value.slice (some ⟨g, 0, none⟩) 54 q2).ownBlock = some q) w6).setCell (p := ⟨g, i / 8, none⟩) (fun _ => rfl) (.int .u8 ((flipBit (bt L (i / 8)) (i % 8)).toNat : Int))
      clear hput o2
      go_upto_region 30 with fail
      obtain ⟨w7, hw7⟩ : ∃ x, x = w6.setCell ⟨g, i / 8, none⟩ (.int .u8 ((flipBit (bt L (i / 8)) (i % 8)).toNat : Int)) := ⟨_, rfl⟩
      rw [← hw7]
      rw [← hw7] at hfr hnew
      replace hnew : Owx w7 5 1 (.slice (some ⟨g, 0, none⟩) 54 q2) 54 (u8s (flipB L i)) s2 := hnew
      replace kt := kt.frm hfr (fun hq => g2 G hq rfl)
      replace b := below_frm b b.size hfr low2
      obtain ⟨_, _, er, _, r5⟩ := hnew.rd
      cases er
      clear hw7 hfr hc hz hxb hnm hnmi hbt8
      have c0 : w7.cell? ⟨G, 0, none⟩ = some (.int .i64 x0) := kt.cell 0
      have c1 : w7.cell? ⟨G, 1, none⟩ = some (.int .i64 x1) := kt.cell 1
      have c2 : w7.cell? ⟨G, 2, none⟩ = some (.int .u64 x2) := kt.cell 2
      have c3 : w7.cell? ⟨G, 3, none⟩ = some (.int .u64 x3) := kt.cell 3
      have c4 : w7.cell? ⟨G, 4, none⟩ = some (.int .i64 x4) := kt.cell 4
      have c5 : w7.cell? ⟨G, 5, none⟩ = some (.int .i64 x5) := kt.cell 5
      have c6 : w7.cell? ⟨G, 6, none⟩ = some (.int .i64 x6) := kt.cell 6
      have c7 : w7.cell? ⟨G, 7, none⟩ = some (.int .i64 x7) := kt.cell 7
      go_wp2_with fail
      with_reducible refine (T1.out _ _ _ r5 (HL.out.below b)).mono ?_
      rintro e w8 ⟨rfl, b2⟩
      replace kt := kt.frm (ex := fun _ => False) (Frm.of_below b2) id
      replace hnew := hnew.bel b2
      replace b := b.trans (b2.mono b.size)
      clear b2 r5
      clear c0 c1 c2 c3 c4 c5 c6 c7
      obtain ⟨g', er, hc, hz, hput⟩ := hnew.put (k := j / 8) (by omega)
      cases er
      have hxb := xor_bit (bt (flipB L i) (j / 8)) (j % 8) (by omega)
      have hnm : j / 8 < 54 := by omega
      have hnmi : (j : Int) / 8 < 54 := by omega
      have hbt8 := (bt (flipB L i) (j / 8)).toNat_lt
      have hnew2 := hput (flipBit (bt (flipB L i) (j / 8)) (j % 8))
      have hfr := (Frm.refl (fun q => (Value.slice (some ⟨g, 0, none⟩) 54 q2).ownBlock = some q) w8).setCell (p := ⟨g, j / 8, none⟩) (fun _ => rfl) (.int .u8 ((flipBit (bt (flipB L i) (j / 8)) (j % 8)).toNat : Int))
      clear hput hnew
      go_upto_region 33 with fail
      obtain ⟨w9, hw9⟩ : ∃ x, x = w8.setCell ⟨g, j / 8, none⟩ (.int .u8 ((flipBit (bt (flipB L i) (j / 8)) (j % 8)).toNat : Int)) := ⟨_, rfl⟩
      rw [← hw9]
      rw [← hw9] at hfr hnew2
      replace hnew2 : Owx w9 5 1 (.slice (some ⟨g, 0, none⟩) 54 q2) 54 (u8s (flipB (flipB L i) j)) s2 := hnew2
      replace kt := kt.frm hfr (fun hq => g2 G hq rfl)
      replace b := below_frm b b.size hfr low2
      obtain ⟨_, _, er, _, r5⟩ := hnew2.rd
      cases er
      clear hw9 hfr hc hz hxb hnm hnmi hbt8 hnew2
      have c0 : w9.cell? ⟨G, 0, none⟩ = some (.int .i64 x0) := kt.cell 0
      have c1 : w9.cell? ⟨G, 1, none⟩ = some (.int .i64 x1) := kt.cell 1
      have c2 : w9.cell? ⟨G, 2, none⟩ = some (.int .u64 x2) := kt.cell 2
      have c3 : w9.cell? ⟨G, 3, none⟩ = some (.int .u64 x3) := kt.cell 3
      have c4 : w9.cell? ⟨G, 4, none⟩ = some (.int .i64 x4) := kt.cell 4
      have c5 : w9.cell? ⟨G, 5, none⟩ = some (.int .i64 x5) := kt.cell 5
      have c6 : w9.cell? ⟨G, 6, none⟩ = some (.int .i64 x6) := kt.cell 6
      have c7 : w9.cell? ⟨G, 7, none⟩ = some (.int .i64 x7) := kt.cell 7
      by_cases hij : i = j
      · have hij2 : ((i : Nat) : Int) = j := by omega
        have hr5 : Rd w9 (some ⟨g, 0, none⟩) (u8s (flipB (flipB L i) j)) := r5
        have t2 := fun wx hx hy => T2.out hij (some ⟨g, 0, none⟩) q2 wx hx hy
        clear T2 T3 T1 r5 hij
        go_wp2_with fail
        with_reducible refine (t2 _ hr5 (HL.out.below b)).mono ?_
        rintro e wd ⟨rfl, b2⟩
        replace b := b.trans (b2.mono b.size)
        go_wp2
        go_ret
        exact ⟨rfl, b⟩
      · have hij2 : ¬ ((i : Nat) : Int) = j := by omega
        have hr5 : Rd w9 (some ⟨g, 0, none⟩) (u8s (flipB (flipB L i) j)) := r5
        have t3 := fun wx hx => T3.out hij (some ⟨g, 0, none⟩) q2 wx hx
        clear T2 T3 T1 r5 hij
        go_wp2_with fail
        with_reducible refine (t3 _ hr5).mono ?_
        rintro e wd ⟨rfl, b2⟩
        replace b := b.trans (b2.mono b.size)
        go_wp2
        go_ret
        exact ⟨rfl, b⟩
  · obtain ⟨pk, ly⟩ := back_unfit x0 x1 x2 x3 x4 x5 x6 x7 h0 h1 h2 h3 h4 h5 h6 h7 hf
    have LY := Lib.hid ly
    clear pk ly hf h0 h1 h2 h3 h4 h5 h6 h7
    go_enter Tryd.func7, Tryd.ntmps7
    go_wp2_with fail
    rw [← hw1, ← hG]
    clear hw1 hG
    with_reducible refine hh.mono ?_
    rintro e w2 ⟨rfl, b2⟩
    replace kt := kt.frm (ex := fun _ => False) (Frm.of_below b2) id
    replace b := b.trans (b2.mono b.size)
    clear b2 hh
    have c0 : w2.cell? ⟨G, 0, none⟩ = some (.int .i64 x0) := kt.cell 0
    have c1 : w2.cell? ⟨G, 1, none⟩ = some (.int .i64 x1) := kt.cell 1
    have c2 : w2.cell? ⟨G, 2, none⟩ = some (.int .u64 x2) := kt.cell 2
    have c3 : w2.cell? ⟨G, 3, none⟩ = some (.int .u64 x3) := kt.cell 3
    have c4 : w2.cell? ⟨G, 4, none⟩ = some (.int .i64 x4) := kt.cell 4
    have c5 : w2.cell? ⟨G, 5, none⟩ = some (.int .i64 x5) := kt.cell 5
    have c6 : w2.cell? ⟨G, 6, none⟩ = some (.int .i64 x6) := kt.cell 6
    have c7 : w2.cell? ⟨G, 7, none⟩ = some (.int .i64 x7) := kt.cell 7
    go_wp2_with fail
    with_reducible refine (LY.out _ (HL.out.below b) (HS.out.below b)).mono ?_
    rintro e w3 ⟨rfl, b2⟩
    replace b := b.trans (b2.mono b.size)
    clear b2 kt
    clear c0 c1 c2 c3 c4 c5 c6 c7
    go_wp2_with (go_at_call 13; (with_reducible refine (no_any _ _).mono ?_); rintro e w' ⟨rfl, rfl⟩)
    go_ret
    exact ⟨rfl, b⟩
end Go.Proofs.YtekbjcagjkcaiaaDoor
