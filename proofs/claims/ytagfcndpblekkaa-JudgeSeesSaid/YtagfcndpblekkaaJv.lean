/- Walks of judge's See: a mark, an erase. -/
import Derived.Test.YtagfcndpblekkaaJu
namespace Go.Proofs.Ytagfcndpblekkaa
open Go.RowKit Go.Maps
set_option linter.unusedVariables false
set_option linter.unusedSimpArgs false
set_option maxRecDepth 100000 in
set_option maxHeartbeats 6400000 in
theorem See_3 (a : JA) (Bn : Nat) (b p s : Int) (J : JS) (n : Nat) (c : Cmd) (w : World) (h : JP w a Bn b p s J n) (hB : b = Bn) (hc : CmdI c) (hf : J.fl.length = Bn) (ht : J.tp.length = Bn) (hn : n < maxLen) (hp : p ≤ 256) (hk : KpP b p J c) (hk1 : c.k = 3) :
    Calls Try.prog 10 #[.pointer (some ⟨a.q, 0, none⟩), .agg #[.int .i64 c.k, .int .i64 c.b, .int .i64 c.p, .int .i64 c.s]] w (SeeP a Bn b p s (stP p J c) (n + 1) true w) := by
  obtain ⟨w1, hw1⟩ : ∃ x, x = w.alloc (.cells #[.int .i64 c.k, .int .i64 c.b, .int .i64 c.p, .int .i64 c.s] 33) := ⟨_, rfl⟩
  have b1 : Below w.heap.size w w1 := by rw [hw1]; exact (Below.refl _ w).alloc (Nat.le_refl _) _
  have kc : Blk w1 w.heap.size 33 [.int .i64 c.k, .int .i64 c.b, .int .i64 c.p, .int .i64 c.s] := by rw [hw1]; exact Blk.new w _ [.int .i64 c.k, .int .i64 c.b, .int .i64 c.p, .int .i64 c.s]
  have hGo : ¬ a.own w.heap.size := fun hh => by have := h.lt _ hh; omega
  have h1 := h.bel b1
  obtain ⟨G, hG⟩ : ∃ G, G = w.heap.size := ⟨_, rfl⟩
  rw [← hG] at kc hGo
  have hkp := keeps_any a Bn b p s J n c w1 h1 hB hc hf ht
  rw [show kpP b p J c = true from decide_eq_true hk] at hkp
  have k0 : w1.cell? ⟨G, 0, none⟩ = some (.int .i64 c.k) := kc.cell 0
  have k1 : w1.cell? ⟨G, 1, none⟩ = some (.int .i64 c.b) := kc.cell 1
  have k2 : w1.cell? ⟨G, 2, none⟩ = some (.int .i64 c.p) := kc.cell 2
  have k3 : w1.cell? ⟨G, 3, none⟩ = some (.int .i64 c.s) := kc.cell 3
  have hst : stP p J c = if c.s = 0 then { J with ma := fun x => if x = c.b then 1 else J.ma x } else J := by unfold stP; rw [if_neg (by omega), if_neg (by omega)]
  rw [hst]
  obtain ⟨_, ⟨hb0, hbB⟩, _, _, _⟩ := hk
  obtain ⟨i0, i1, i2, i3⟩ := hc
  have HI1 := Lib.hid i1
  have HT := Lib.hid ht
  have HF := Lib.hid hf
  obtain ⟨kb, hkb⟩ : ∃ kb : Nat, c.b = kb := ⟨c.b.toNat, by omega⟩
  have hkl : kb < Bn := by omega
  have hkli : (kb : Int) < (Bn : Int) := by omega
  rw [hkb]
  rw [hkb] at hkp k1 kc HI1 hw1
  rw [hk1] at hkp k0 kc hw1
  rw [hk1]
  clear h hf ht hB hst hk1 hkb i0 i1 i2 i3 hbB hb0
  generalize c.p = cp at *
  generalize c.s = cs at *
  by_cases hs : cs = 0
  · rw [if_pos hs]
    subst hs
    go_enter Try.func10, Try.ntmps10
    go_wp2_with fail
    rw [← hw1, ← hG]
    clear hw1 hG
    with_reducible refine hkp.mono ?_
    rintro e w2 ⟨rfl, b2⟩
    have h2 := h1.bel b2
    have hf2 : Frm a.own w w2 := (Frm.of_below b1).trans (Frm.of_below b2)
    replace kc := kc.frm (ex := fun _ => False) (Frm.of_below b2) id
    clear hkp h1 k0 k1 k2 k3 b1 b2
    have k0 : w2.cell? ⟨G, 0, none⟩ = some (.int .i64 3) := kc.cell 0
    have k1 : w2.cell? ⟨G, 1, none⟩ = some (.int .i64 (kb : Int)) := kc.cell 1
    have k3 : w2.cell? ⟨G, 3, none⟩ = some (.int .i64 0) := kc.cell 3
    obtain ⟨c0, c1, c3, c4, c5, c6, c7⟩ := cellsJ h2
    go_upto_region 19 with fail
    refine wp_region_still_tail 6 (by kernel_rfl) (by kernel_rfl) ?_
    simp only [List.take_succ_cons, List.take_zero, List.drop_succ_cons, List.drop_zero]
    repeat still_step
    refine wpStill_nil ?_
    change wpList _ _ _ _ _ w2.drew
    obtain ⟨w3, hput, hM3, hF3⟩ := h2.drew.ma.put hn HI1.out
    have h3 := h2.drew.setMa hM3 hF3
    have hf3 : Frm a.own w w3 := hf2.drew.trans (hF3.mono (fun q _ hq => .inr (.inl hq)))
    have H3 := Lib.hid h3
    have HF3 := Lib.hid hf3
    clear h3 hf3 hM3 hF3 hf2 kc
    go_wp2
    go_ret
    exact ⟨rfl, H3.out, HF3.out⟩
  · rw [if_neg hs]
    go_enter Try.func10, Try.ntmps10
    go_wp2_with fail
    rw [← hw1, ← hG]
    clear hw1 hG
    with_reducible refine hkp.mono ?_
    rintro e w2 ⟨rfl, b2⟩
    have h2 := h1.bel b2
    have hf2 : Frm a.own w w2 := (Frm.of_below b1).trans (Frm.of_below b2)
    replace kc := kc.frm (ex := fun _ => False) (Frm.of_below b2) id
    clear hkp h1 k0 k1 k2 k3 b1 b2
    have k0 : w2.cell? ⟨G, 0, none⟩ = some (.int .i64 3) := kc.cell 0
    have k1 : w2.cell? ⟨G, 1, none⟩ = some (.int .i64 (kb : Int)) := kc.cell 1
    have k3 : w2.cell? ⟨G, 3, none⟩ = some (.int .i64 cs) := kc.cell 3
    obtain ⟨c0, c1, c3, c4, c5, c6, c7⟩ := cellsJ h2
    have H2 := Lib.hid (h2.mono (Nat.le_succ n))
    clear h2 kc
    go_wp2
    go_ret
    exact ⟨rfl, H2.out, hf2⟩
/-- The tried pages of a block behind k strikes. -/
def trK (J : JS) (kb k : Nat) : Int → Int → Int := fun x y => if x = (kb : Int) ∧ 0 ≤ y ∧ y < (k : Int) then 0 else J.tr x y
theorem trK_zero (J : JS) (kb : Nat) : trK J kb 0 = J.tr := by
  funext x y
  unfold trK
  rw [if_neg (by omega)]
theorem trK_succ (J : JS) (kb k : Nat) : (fun x y => if x = (kb : Int) ∧ y = (k : Int) then 0 else trK J kb k x y) = trK J kb (k + 1) := by
  funext x y
  unfold trK
  by_cases h1 : x = (kb : Int) ∧ y = (k : Int)
  · rw [if_pos h1, if_pos ⟨h1.1, by omega, by omega⟩]
  · rw [if_neg h1]
    by_cases h2 : x = (kb : Int) ∧ 0 ≤ y ∧ y < (k : Int)
    · rw [if_pos h2, if_pos ⟨h2.1, h2.2.1, by omega⟩]
    · rw [if_neg h2, if_neg (by omega)]
set_option maxRecDepth 100000 in
set_option maxHeartbeats 6400000 in
theorem See_2 (a : JA) (Bn : Nat) (b p s : Int) (J : JS) (n : Nat) (c : Cmd) (w : World) (h : JP w a Bn b p s J n) (hB : b = Bn) (hc : CmdI c) (hf : J.fl.length = Bn) (ht : J.tp.length = Bn) (hn : n < maxLen) (hp : p ≤ 256) (hk : KpP b p J c) (hk1 : c.k = 2) (htp : 0 ≤ at0 J.tp c.b ∧ at0 J.tp c.b ≤ 256) (hlw : J.wr.length = Bn) (hwr : 0 ≤ at0 J.wr c.b ∧ at0 J.wr c.b ≤ 4611686018427387904) :
    Calls Try.prog 10 #[.pointer (some ⟨a.q, 0, none⟩), .agg #[.int .i64 c.k, .int .i64 c.b, .int .i64 c.p, .int .i64 c.s]] w (SeeP a Bn b p s (stP p J c) (n + 1) true w) := by
  obtain ⟨w1, hw1⟩ : ∃ x, x = w.alloc (.cells #[.int .i64 c.k, .int .i64 c.b, .int .i64 c.p, .int .i64 c.s] 33) := ⟨_, rfl⟩
  have b1 : Below w.heap.size w w1 := by rw [hw1]; exact (Below.refl _ w).alloc (Nat.le_refl _) _
  have kc : Blk w1 w.heap.size 33 [.int .i64 c.k, .int .i64 c.b, .int .i64 c.p, .int .i64 c.s] := by rw [hw1]; exact Blk.new w _ [.int .i64 c.k, .int .i64 c.b, .int .i64 c.p, .int .i64 c.s]
  have hGo : ¬ a.own w.heap.size := fun hh => by have := h.lt _ hh; omega
  have h1 := h.bel b1
  obtain ⟨G, hG⟩ : ∃ G, G = w.heap.size := ⟨_, rfl⟩
  rw [← hG] at kc hGo
  have hkp := keeps_any a Bn b p s J n c w1 h1 hB hc hf ht
  rw [show kpP b p J c = true from decide_eq_true hk] at hkp
  have k0 : w1.cell? ⟨G, 0, none⟩ = some (.int .i64 c.k) := kc.cell 0
  have k1 : w1.cell? ⟨G, 1, none⟩ = some (.int .i64 c.b) := kc.cell 1
  have k2 : w1.cell? ⟨G, 2, none⟩ = some (.int .i64 c.p) := kc.cell 2
  have k3 : w1.cell? ⟨G, 3, none⟩ = some (.int .i64 c.s) := kc.cell 3
  obtain ⟨_, ⟨hb0, hbB⟩, _, _, _⟩ := hk
  obtain ⟨i0, i1, i2, i3⟩ := hc
  have HI1 := Lib.hid i1
  have HT := Lib.hid ht
  have HF := Lib.hid hf
  obtain ⟨kb, hkb⟩ : ∃ kb : Nat, c.b = kb := ⟨c.b.toNat, by omega⟩
  have hkl : kb < Bn := by omega
  have hkli : (kb : Int) < (Bn : Int) := by omega
  rw [hkb]
  rw [hkb] at hkp k1 kc HI1 hw1
  rw [hk1] at hkp k0 kc hw1
  rw [hk1]
  have hst : stP p J c = { ma := J.ma, tr := trK J kb (at0 J.tp c.b).toNat, wr := J.wr.set kb (at0 J.wr c.b + 1), tp := J.tp.set kb 0, fl := J.fl.set kb (if c.s = 0 then 0 else p) } := by
    unfold stP trK
    rw [if_neg (by omega), if_pos hk1, hkb, Int.toNat_natCast]
    congr 1
    funext x y
    rw [hkb] at htp
    rw [show (((at0 J.tp (kb : Int)).toNat : Nat) : Int) = at0 J.tp (kb : Int) by omega]
  rw [hst]
  have e1 : at0 J.tp c.b = J.tp.getD kb 0 := by unfold at0; rw [hkb, Int.toNat_natCast]
  have e2 : at0 J.wr c.b = J.wr.getD kb 0 := by unfold at0; rw [hkb, Int.toNat_natCast]
  rw [e1] at htp ⊢
  rw [e2] at hwr ⊢
  obtain ⟨fv, hfv⟩ : ∃ fv, fv = (if c.s = 0 then 0 else p) := ⟨_, rfl⟩
  rw [← hfv]
  have HLW := Lib.hid hlw
  clear h hf ht hB hst hk1 hkb i0 i1 i2 i3 hbB hb0 hlw e1 e2
  generalize c.p = cp at *
  generalize c.s = cs at *
  have HFV := Lib.hid hfv
  clear hfv
  obtain ⟨tn, htn⟩ : ∃ tn : Nat, J.tp.getD kb 0 = tn := ⟨(J.tp.getD kb 0).toNat, by omega⟩
  rw [htn] at htp ⊢
  rw [Int.toNat_natCast]
  have HTN := Lib.hid htn
  obtain ⟨wv, hwv⟩ : ∃ wv, J.wr.getD kb 0 = wv := ⟨_, rfl⟩
  rw [hwv] at hwr ⊢
  have HWV := Lib.hid hwv
  have hwp : IntKind.i64.wrap (wv + 1) = wv + 1 := by rw [IntKind.wrap_i64]; omega
  clear htn hwv
  go_enter Try.func10, Try.ntmps10
  go_wp2_with fail
  rw [← hw1, ← hG]
  clear hw1 hG
  with_reducible refine hkp.mono ?_
  rintro e w2 ⟨rfl, b2⟩
  have h2 := h1.bel b2
  have hf2 : Frm a.own w w2 := (Frm.of_below b1).trans (Frm.of_below b2)
  replace kc := kc.frm (ex := fun _ => False) (Frm.of_below b2) id
  clear hkp h1 k0 k1 k2 k3 b1 b2
  have k0 : w2.cell? ⟨G, 0, none⟩ = some (.int .i64 2) := kc.cell 0
  have k1 : w2.cell? ⟨G, 1, none⟩ = some (.int .i64 (kb : Int)) := kc.cell 1
  have k3 : w2.cell? ⟨G, 3, none⟩ = some (.int .i64 cs) := kc.cell 3
  obtain ⟨c0, c1, c3, c4, c5, c6, c7⟩ := cellsJ h2
  have hcw : w2.cell? ⟨a.ww, kb, none⟩ = some (.int .i64 wv) := by rw [h2.wr.cell, ← HWV.out]; exact iv_at _ _ (by rw [HLW.out]; exact hkl)
  have hfz := h2.wr.frozen kb
  have h3 := (h2.setWr kb (wv + 1)).drew
  have hf3 := (hf2.setCell (p := ⟨a.ww, kb, none⟩) (fun _ => .inr (.inr (.inr (.inr (.inr rfl))))) (.int .i64 (wv + 1))).drew
  have kc3 := (kc.far (p := ⟨a.ww, kb, none⟩) (fun e => hGo (.inr (.inr (.inr (.inr (.inr e)))))) (.int .i64 (wv + 1))).drew
  have H3 := Lib.hid h3
  have HF3 := Lib.hid hf3
  have HK3 := Lib.hid kc3
  clear h3 hf3 kc3
  go_upto_region 8 with fail
  refine wp_region_still_tail 10 (by kernel_rfl) (by kernel_rfl) ?_
  simp only [List.take_succ_cons, List.take_zero, List.drop_succ_cons, List.drop_zero]
  repeat still_step
  refine wpStill_nil ?_
  change wpList _ _ _ _ _ w2.drew
  go_upto_region 9 with fail
  obtain ⟨w3, hw3⟩ : ∃ x, x = (w2.setCell ⟨a.ww, kb, none⟩ (.int .i64 (wv + 1))).drew := ⟨_, rfl⟩
  rw [← hw3]
  have h3 : JP w3 a Bn b p s { J with wr := J.wr.set kb (wv + 1) } n := by rw [hw3]; exact H3.out
  have hf3 : Frm a.own w w3 := by rw [hw3]; exact HF3.out
  replace kc : Blk w3 G 33 [.int .i64 2, .int .i64 (kb : Int), .int .i64 cp, .int .i64 cs] := by rw [hw3]; exact HK3.out
  clear hw3 H3 HF3 HK3 h2 hf2 hcw hfz c0 c1 c3 c4 c5 c6 c7 k0 k1 k3
  have k0 : w3.cell? ⟨G, 0, none⟩ = some (.int .i64 2) := kc.cell 0
  have k1 : w3.cell? ⟨G, 1, none⟩ = some (.int .i64 (kb : Int)) := kc.cell 1
  obtain ⟨c0, c1, c3, c4, c5, c6, c7⟩ := cellsJ h3
  have hct : w3.cell? ⟨a.tt, kb, none⟩ = some (.int .i64 (tn : Int)) := by rw [h3.tp.cell, ← HTN.out]; exact iv_at _ _ (by rw [HT.out]; exact hkl)
  go_quiet (fail)
  go_wp2
  obtain ⟨w4, hw4⟩ : ∃ x, x = w3.drewN nq := ⟨_, rfl⟩
  rw [← hw4]
  have h4 : JP w4 a Bn b p s { J with wr := J.wr.set kb (wv + 1), tr := trK J kb 0 } n := by rw [hw4, trK_zero]; exact h3.drewN nq
  have hf4 : Frm a.own w w4 := by rw [hw4]; exact hf3.trans (Frm.of_below (bel_drewN (Below.refl _ _) nq))
  replace kc : Blk w4 G 33 [.int .i64 2, .int .i64 (kb : Int), .int .i64 cp, .int .i64 cs] := by rw [hw4]; exact kc.frm (ex := fun _ => False) (Frm.of_below (bel_drewN (Below.refl _ _) nq)) id
  clear hw4 h3 hf3 hct c0 c1 c3 c4 c5 c6 c7 k0 k1
  go_loopw [53] (fun ii wr => ∃ k : Nat, k ≤ tn ∧ ii = .int .i64 k ∧ JP wr a Bn b p s { J with wr := J.wr.set kb (wv + 1), tr := trK J kb k } n ∧ Frm a.own w4 wr) (fun ii _ => tn - (intJ ii))
  case atStart => exact ⟨0, by omega, rfl, h4, Frm.refl _ _⟩
  case round =>
    clear h4
    obtain ⟨k, hk, rfl, hJ, hf⟩ := hrel
    have kr := kc.frm hf hGo
    have k0 : wr.cell? ⟨G, 0, none⟩ = some (.int .i64 2) := kr.cell 0
    have k1 : wr.cell? ⟨G, 1, none⟩ = some (.int .i64 (kb : Int)) := kr.cell 1
    have k3 : wr.cell? ⟨G, 3, none⟩ = some (.int .i64 cs) := kr.cell 3
    obtain ⟨c0, c1, c3, c4, c5, c6, c7⟩ := cellsJ hJ
    by_cases hlt : k < tn
    · have hlti : (k : Int) < (tn : Int) := by omega
      obtain ⟨w5, hdel, hM5, hF5⟩ := hJ.drew.tr.del (y := (k : Int)) HI1.out ⟨by omega, by omega⟩ 0
      rw [trK_succ] at hM5
      have h5 := hJ.drew.setTr (Nat.le_refl n) hM5 hF5
      have hf5 := hf.drew.trans (hF5.mono (fun q _ hq => .inr (.inr (.inl hq))))
      have H5 := Lib.hid h5
      have HF5 := Lib.hid hf5
      clear h5 hf5 hM5 hF5 hJ hf kr
      go_upto_region 12 with fail
      refine wp_region_still_tail 8 (by kernel_rfl) (by kernel_rfl) ?_
      simp only [List.take_succ_cons, List.take_zero, List.drop_succ_cons, List.drop_zero]
      repeat still_step
      refine wpStill_nil ?_
      change wpList _ _ _ _ _ wr.drew
      go_wp2
      go_roundw
      case rel => exact ⟨k + 1, by omega, by go_num, H5.out, HF5.out⟩
      case measure => simp [intJ]; omega
    · obtain rfl : k = tn := by omega
      have hct : wr.cell? ⟨a.tt, kb, none⟩ = some (.int .i64 (J.tp.getD kb 0)) := by rw [hJ.tp.cell]; exact iv_at _ _ (by rw [HT.out]; exact hkl)
      have hcf : wr.cell? ⟨a.ff, kb, none⟩ = some (.int .i64 (J.fl.getD kb 0)) := by rw [hJ.fl.cell]; exact iv_at _ _ (by rw [HF.out]; exact hkl)
      have hzt := hJ.tp.frozen kb
      have hzf := hJ.fl.frozen kb
      obtain ⟨n1, n2, n3, n4, n5, n6, n7, n8, n9, n10, n11, n12, n13, n14, n15⟩ := hJ.ne
      have hJa := (hJ.setTp kb 0).drew
      have hJb := ((hJ.setTp kb 0).setFl kb p).drew
      have ft : Frm a.own wr ((wr.setCell ⟨a.tt, kb, none⟩ (.int .i64 0))) := (Frm.refl a.own wr).setCell (p := ⟨a.tt, kb, none⟩) (fun _ => .inr (.inr (.inr (.inr (.inl rfl))))) (.int .i64 0)
      have fb : Frm a.own wr (((wr.setCell ⟨a.tt, kb, none⟩ (.int .i64 0)).setCell ⟨a.ff, kb, none⟩ (.int .i64 p)).drew) := (ft.setCell (p := ⟨a.ff, kb, none⟩) (fun _ => .inr (.inr (.inr (.inl rfl)))) (.int .i64 p)).drew
      have kra := (kr.frm ft hGo).drew
      have krb := kr.frm fb hGo
      have cell4 : ∀ (wx : World) (J' : JS), JP wx a Bn b p s J' n → Blk wx G 33 [.int .i64 2, .int .i64 (kb : Int), .int .i64 cp, .int .i64 cs] → (wx.cell? ⟨G, 1, none⟩ = some (.int .i64 (kb : Int)) ∧ wx.cell? ⟨a.q, 1, none⟩ = some (.int .i64 p) ∧ wx.cell? ⟨a.q, 4, none⟩ = some (.slice (some ⟨a.ff, 0, none⟩) Bn Bn) ∧ wx.cell? ⟨a.q, 6, none⟩ = some (.slice (some ⟨a.tt, 0, none⟩) Bn Bn)) := fun wx J' q1 q2 => ⟨q2.cell 1, (cellsJ q1).2.1, (cellsJ q1).2.2.2.1, (cellsJ q1).2.2.2.2.2.1⟩
      have HSa := Lib.hid (cell4 _ _ hJa kra)
      have HSb := Lib.hid (cell4 _ _ hJb krb)
      have HJb := Lib.hid hJb
      have HKb := Lib.hid krb
      have HFb := Lib.hid (hf4.trans (hf.trans fb))
      clear hJa hJb ft fb kra krb cell4
      go_upto_region 14 with fail
      go_region_held3 (fun wx => wx.cell? ⟨G, 1, none⟩ = some (.int .i64 (kb : Int)) ∧ wx.cell? ⟨a.q, 1, none⟩ = some (.int .i64 p) ∧ wx.cell? ⟨a.q, 4, none⟩ = some (.slice (some ⟨a.ff, 0, none⟩) Bn Bn) ∧ wx.cell? ⟨a.q, 6, none⟩ = some (.slice (some ⟨a.tt, 0, none⟩) Bn Bn)) (first | exact HSa.out | exact HSb.out | go_keep) (fail)
      all_goals
        obtain ⟨w6, hw6⟩ : ∃ x, x = ((wr.setCell ⟨a.tt, kb, none⟩ (.int .i64 0)).setCell ⟨a.ff, kb, none⟩ (.int .i64 p)).drew := ⟨_, rfl⟩
        go_upto_region 15 with fail
        rw [← hw6]
        have h6 := HJb.out
        have k6 := HKb.out
        have f6 := HFb.out
        rw [← hw6] at h6 k6 f6
        clear hw6 hJ hf kr hct hcf hzt hzf k0 k1 k3 c0 c1 c3 c4 c5 c6 c7 HSa HSb HJb HKb HFb n1 n2 n3 n4 n5 n6 n7 n8 n9 n10 n11 n12 n13 n14 n15
        have k1 : w6.cell? ⟨G, 1, none⟩ = some (.int .i64 (kb : Int)) := k6.cell 1
        have k3 : w6.cell? ⟨G, 3, none⟩ = some (.int .i64 cs) := k6.cell 3
        obtain ⟨c0, c1, c3, c4, c5, c6, c7⟩ := cellsJ h6
        by_cases hs : cs = 0
        · have e7 : fv = 0 := by rw [HFV.out, if_pos hs]
          subst hs
          subst e7
          have hcf : w6.cell? ⟨a.ff, kb, none⟩ = some (.int .i64 p) := by
            rw [h6.fl.cell]
            exact (iv_at _ _ (by simp; rw [HF.out]; exact hkl)).trans (by simp [List.getElem?_set, HF.out, hkl])
          have hzf := h6.fl.frozen kb
          have h7 := (h6.setFl kb 0).drew
          simp only [List.set_set] at h7
          have H7 := Lib.hid (h7.mono (Nat.le_succ n))
          have F7 := Lib.hid (f6.setCell (p := ⟨a.ff, kb, none⟩) (fun _ => .inr (.inr (.inr (.inl rfl)))) (.int .i64 0)).drew
          clear h7 h6 f6 k6
          go_upto_region 16 with fail
          refine wp_region_still_tail 7 (by kernel_rfl) (by kernel_rfl) ?_
          simp only [List.take_succ_cons, List.take_zero, List.drop_succ_cons, List.drop_zero]
          repeat still_step
          refine wpStill_nil ?_
          change wpList _ _ _ _ _ w6.drew
          go_wp2
          go_ret
          exact ⟨rfl, H7.out, F7.out⟩
        · have e7 : fv = p := by rw [HFV.out, if_neg hs]
          subst e7
          have H7 := Lib.hid (h6.mono (Nat.le_succ n))
          clear h6 k6
          go_wp2
          go_ret
          exact ⟨rfl, H7.out, f6⟩
end Go.Proofs.Ytagfcndpblekkaa
