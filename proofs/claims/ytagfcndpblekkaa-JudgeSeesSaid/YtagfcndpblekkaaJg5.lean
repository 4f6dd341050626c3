/- The walk of the law JudgeSees. -/
import Derived.Test.YtagfcndpblekkaaJg4
namespace Go.Proofs.Ytagfcndpblekkaa
open Go.RowKit Go.Maps
set_option linter.unusedVariables false
set_option linter.unusedSimpArgs false
theorem rd_cell {w : World} {g k : Nat} {cs : List Value} {u : Value} (h : Rd w (some ⟨g, 0, none⟩) cs) (hk : cs[k]? = some u) : w.cell? ⟨g, k, none⟩ = some u := by
  obtain ⟨ad, e, hc⟩ := h.at_ hk
  cases e
  by_cases e : k = 0
  · subst e
    simpa [Addr.add] using hc
  · simpa [Addr.add, e] using hc
theorem nextS_le (B p : Int) (m : List Bool) (clean : Bool) (seen : List Cmd) (c : Cmd) {k : Nat} (h : seen.length ≤ k) : (nextS B p m clean seen c).length ≤ k + 1 := by
  unfold nextS
  split
  · simp; omega
  · omega
theorem WearR.set {w0 wr : World} {g c n : Nat} {L : List Int} {sp : List Value} (h : WearR w0 wr g c n L sp) (k : Nat) (x : Int) (hk : k < n) : WearR w0 (wr.setCell ⟨g, k, none⟩ (.int .i64 x)) g c n (L.set k x) sp := by
  refine ⟨?_, by rw [List.length_set]; exact h.ln, h.cn, h.nc, h.cm, h.gs⟩
  have h2 := h.bk.set_ k (.int .i64 x)
  rw [List.set_append_left _ _ (by rw [iv_len, h.ln]; exact hk), iv_set] at h2
  exact h2
theorem WearR.frm {w0 wr w4 : World} {g c n : Nat} {L : List Int} {sp : List Value} {ex : Nat → Prop} (h : WearR w0 wr g c n L sp) (hf : Frm ex wr w4) (hx : ¬ ex g) : WearR w0 w4 g c n L sp := ⟨h.bk.frm hf hx, h.ln, h.cn, h.nc, h.cm, h.gs⟩
theorem fill_set {L : List Int} {k n : Nat} {x : Int} (hl : L.length = n) (h : ∀ j, j < k → L.getD j 0 = x) (hk : k < n) : ∀ j, j < k + 1 → (L.set k x).getD j 0 = x := fun j hj => by
  rw [List.getD_eq_getElem?_getD, List.getElem?_set]
  by_cases e : k = j
  · subst e
    simp [hl, hk]
  · rw [if_neg e, ← List.getD_eq_getElem?_getD]
    exact h j (by omega)
set_option maxRecDepth 100000 in
set_option maxHeartbeats 12800000 in
theorem sees_ok (w : World) (b p s : Int) (A : Option Addr) (n c : Nat) (m : List Bool) (hml : m.length = n) (hr : Rd w A (bls m)) (clean : Bool) (A2 : Option Addr) (n2 c2 : Nat) (l : List Cmd) (hll : l.length = n2) (hr2 : Rd w A2 (cmdV l)) (hI : CmdsI l) (hm2 : n2 ≤ 4398046510976) (blk : Int) (hblI : I64 blk) (h0 : newE b p s n = 0) :
    Calls Try.prog 3 #[.agg #[.int .i64 b, .int .i64 p, .int .i64 s], .slice A n c, .bool clean, .slice A2 n2 c2, .int .i64 blk] w fun e w' => e = .returned (.bool true) ∧ Below w.heap.size w w' := by
  obtain ⟨hz1, hnb⟩ := newE_zero h0
  subst hnb
  obtain ⟨w1, hw1⟩ : ∃ x, x = w.alloc (.cells #[.int .i64 (n : Int), .int .i64 p, .int .i64 s] 23) := ⟨_, rfl⟩
  have b1 : Below w.heap.size w w1 := by rw [hw1]; exact (Below.refl _ w).alloc (Nat.le_refl _) _
  have kg : Blk w1 w.heap.size 23 [.int .i64 (n : Int), .int .i64 p, .int .i64 s] := by rw [hw1]; exact Blk.new w _ [.int .i64 (n : Int), .int .i64 p, .int .i64 s]
  have hBG := begun_ok w1 (n : Int) p s A n c m hml (hr.below b1) clean h0
  have hn4 : n ≤ 4096 := by omega
  have hn8 : 8 ≤ n := by omega
  have hp0 : 0 ≤ p := by omega
  have hp6 : p ≤ 256 := by omega
  obtain ⟨G, hG⟩ : ∃ G, G = w.heap.size := ⟨_, rfl⟩
  rw [← hG] at kg
  have k0 : w1.cell? ⟨G, 0, none⟩ = some (.int .i64 (n : Int)) := kg.cell 0
  have k1 : w1.cell? ⟨G, 1, none⟩ = some (.int .i64 p) := kg.cell 1
  have k2 : w1.cell? ⟨G, 2, none⟩ = some (.int .i64 s) := kg.cell 2
  have HML := Lib.hid hml
  have HLL := Lib.hid hll
  have HI := Lib.hid hI
  have HR2 := Lib.hid hr2
  have HBI := Lib.hid hblI
  clear hml hll hI hr2 hblI hz1 h0 hr kg
  go_enter Try.func3, Try.ntmps3
  go_wp2_with fail
  rw [← hw1, ← hG]
  clear hw1 hG
  with_reducible refine hBG.mono ?_
  rintro e w6 ⟨a, q, gm, cm, sp0, rfl, hjq, hrj, hbm, hown, hq, hgm, hqg, b6⟩
  have hs1 := b1.size
  have hC : SeesC w w6 a q gm n p m := ⟨fun k hk => ⟨Nat.le_trans hs1 (hown k hk).1, (hown k hk).2.1, (hown k hk).2.2, hjq.lt k hk⟩, Nat.le_trans hs1 hq, Nat.le_trans hs1 hgm, hqg, hrj.lt.1, hbm.lt, hp0, hp6, HML.out, hn8, hn4⟩
  have ss : SeesS w w6 a q gm cm n p s m clean sp0 w6 (.slice none 0 0) [] [] (n + 0) := ⟨hjq, hrj, hbm, b1.trans (b6.mono b1.size), (fun j h => by cases h), Nat.le_refl _⟩
  have HC := Lib.hid hC
  have SS := Lib.hid ss
  clear hjq hrj hbm hown hq hgm hqg b6 hs1 hC ss b1 k0 k1 k2 hBG HML hp0 hp6
  go_wp2
  go_loopw [14] (fun ii wr => ∃ (k : Nat) (sa : List Cmd) (v : Value), k ≤ n2 ∧ ii = .int .i64 k ∧ SeesS w w6 a q gm cm n p s m clean sp0 wr v sa sa (n + k) ∧ sa.length ≤ k ∧ SeenB n sa) (fun ii _ => n2 - (intJ ii))
  case atStart => exact ⟨0, [], _, by omega, rfl, SS.out, by simp, (fun j hj => by cases hj)⟩
  case round =>
    clear SS
    obtain ⟨k, sa, v, hk, rfl, ss, hsl, hsb⟩ := hrel
    by_cases hlt : k < n2
    · have hlti : (k : Int) < (n2 : Int) := by omega
      obtain ⟨ad, rfl, d0, d1, d2, d3⟩ := rd_cmd (HR2.out.below ss.bb) k (by have := HLL.out; omega)
      have hci := HI.out k (by have := HLL.out; omega)
      have hcell : ∀ wx, Below w.heap.size w wx → wx.cell? (ad.add (k * 4)) = some (.int .i64 (l.getD k ⟨0, 0, 0, 0⟩).k) ∧ wx.cell? ⟨(ad.add (k * 4)).block, (ad.add (k * 4)).off + 1, none⟩ = some (.int .i64 (l.getD k ⟨0, 0, 0, 0⟩).b) ∧ wx.cell? ⟨(ad.add (k * 4)).block, (ad.add (k * 4)).off + 2, none⟩ = some (.int .i64 (l.getD k ⟨0, 0, 0, 0⟩).p) ∧ wx.cell? ⟨(ad.add (k * 4)).block, (ad.add (k * 4)).off + 3, none⟩ = some (.int .i64 (l.getD k ⟨0, 0, 0, 0⟩).s) := fun wx hb => by
        obtain ⟨ad', e, h1⟩ := rd_cmd (HR2.out.below hb) k (by have := HLL.out; omega)
        cases e
        exact h1
      clear d0 d1 d2 d3
      generalize l.getD k ⟨0, 0, 0, 0⟩ = cc at *
      have hS := fun wx v s2 (h : SeesS w w6 a q gm cm n p s m clean sp0 wx v sa s2 (n + k)) => sees_See HC.out cc hci (by unfold maxLen; omega) (by omega) h
      have hRS := fun wx v s1 kk (h : SeesS w w6 a q gm cm n p s m clean sp0 wx v s1 sa kk) => sees_rSee HC.out cc hci (by omega) h
      have hsl2 := nextS_le (n : Int) p m clean sa cc hsl
      have hsb2 := seenB_next (p := p) (m := m) (clean := clean) (c := cc) hsb
      obtain ⟨ck, cb, cp, cs⟩ := cc
      have hcb : I64 cb := hci.2.1
      simp only at hcell hS hRS
      generalize nextS (n : Int) p m clean sa ⟨ck, cb, cp, cs⟩ = sn at *
      generalize kpR (n : Int) p m clean sa ⟨ck, cb, cp, cs⟩ = X at *
      have HCE := Lib.hid hcell
      have HS := Lib.hid hS
      have HRS := Lib.hid hRS
      have HSB := Lib.hid hsb2
      have HCB := Lib.hid hcb
      clear hcell hS hRS hsb hsb2 hcb hci hsl
      go_upto_region 7 with fail
      go_cut [63] (fun x63 wx => x63 = .bool false ∧ ∃ v', SeesS w w6 a q gm cm n p s m clean sp0 wx v' sn sn (n + k + 1))
      case first =>
        replace ss : SeesS w w6 a q gm cm n p s m clean sp0 wr.drew v sa sa (n + k) := ss.bel HC.out (bel_drew (Below.refl _ _))
        go_region_held3 (fun wx => wx.cell? (ad.add (k * 4)) = some (.int .i64 ck) ∧ wx.cell? ⟨(ad.add (k * 4)).block, (ad.add (k * 4)).off + 1, none⟩ = some (.int .i64 cb) ∧ wx.cell? ⟨(ad.add (k * 4)).block, (ad.add (k * 4)).off + 2, none⟩ = some (.int .i64 cp) ∧ wx.cell? ⟨(ad.add (k * 4)).block, (ad.add (k * 4)).off + 3, none⟩ = some (.int .i64 cs)) (exact HCE.out _ ss.bb) (first
          | (go_at_call 10; (with_reducible refine (HS.out _ _ _ ss).mono ?_); rintro e w4 ⟨rfl, ss'⟩; clear ss; have ss := ss'; clear ss'; dsimp only)
          | (go_at_call 11; (with_reducible refine (HRS.out _ _ _ _ ss).mono ?_); rintro e w4 ⟨rfl, v', ss'⟩; clear ss; have ss := ss'; clear ss'; dsimp only))
        all_goals
          go_wp2_with fail
          go_meet
          exact ⟨by simp, _, ss⟩
      case rest =>
      clear ss HS HRS
      obtain ⟨rfl, v', ss⟩ := hcut
      generalize wc = w8 at *
      have hN := fun wx (h : SeesS w w6 a q gm cm n p s m clean sp0 wx v' sn sn (n + k + 1)) => sees_Next HC.out cb HCB.out h
      have hRN := fun wx (h : SeesS w w6 a q gm cm n p s m clean sp0 wx v' sn sn (n + k + 1)) => sees_rNext HC.out cb (by omega) h
      generalize nxT (n : Int) p m clean sn cb = T at *
      generalize nxE (n : Int) cb = E at *
      have HN := Lib.hid hN
      have HRN := Lib.hid hRN
      clear hN hRN
      have d1 := (HCE.out _ ss.bb).2.1
      go_wp2_with fail
      with_reducible refine (HN.out _ ss).mono ?_
      rintro e w9 ⟨rfl, ss9⟩
      clear ss d1
      have d1 := (HCE.out _ ss9.bb).2.1
      go_wp2_with fail
      with_reducible refine (HRN.out _ ss9).mono ?_
      rintro e w10 ⟨rfl, ss10⟩
      have SS := Lib.hid ss10
      clear ss9 d1 ss10 HN HRN
      go_wp2
      go_roundw
      case rel => exact ⟨k + 1, sn, v', by omega, by go_num, SS.out, hsl2, HSB.out⟩
      case measure => simp [intJ]; omega
    · obtain rfl : k = n2 := by omega
      clear hlt hk HR2 HI HLL
      have hN := fun wx (h : SeesS w w6 a q gm cm n p s m clean sp0 wx v sa sa (n + k)) => sees_Next HC.out blk HBI.out h
      have hRN := fun wx (h : SeesS w w6 a q gm cm n p s m clean sp0 wx v sa sa (n + k)) => sees_rNext HC.out blk (by omega) h
      have hW := fun wx (h : SeesS w w6 a q gm cm n p s m clean sp0 wx v sa sa (n + k)) => sees_Wear HC.out h
      have hRW := fun wx (h : SeesS w w6 a q gm cm n p s m clean sp0 wx v sa sa (n + k)) => sees_rWear HC.out (by omega) hsb h
      generalize nxT (n : Int) p m clean sa blk = T at *
      generalize nxE (n : Int) blk = E at *
      generalize wrL n sa = L at *
      have HN := Lib.hid hN
      have HRN := Lib.hid hRN
      have HW := Lib.hid hW
      have HRW := Lib.hid hRW
      clear hN hRN hW hRW hsb hsl
      go_wp2_with fail
      with_reducible refine (HN.out _ ss).mono ?_
      rintro e w7 ⟨rfl, ss7⟩
      go_wp2_with fail
      with_reducible refine (HRN.out _ ss7).mono ?_
      rintro e w8 ⟨rfl, ss8⟩
      clear ss ss7 HN HRN
      go_wp2_with fail
      with_reducible refine (HW.out _ ss8).mono ?_
      rintro e w9 ⟨g1, e1, sp1, rfl, r1, ss9, b9⟩
      go_wp2_with fail
      with_reducible refine (HW.out _ ss9).mono ?_
      rintro e w10 ⟨g2, e2, sp2, rfl, r2, ss10, b10⟩
      have hgs2 : w8.heap.size ≤ g2 := Nat.le_trans b9.size r2.gs
      have hg12 : g1 ≠ g2 := by have := r1.bk.lt; have := r2.gs; omega
      replace r1 := r1.bel b10
      replace b10 := b9.trans (b10.mono b9.size)
      clear b9 ss9
      go_wp2_with fail
      with_reducible refine (HRW.out _ ss10).mono ?_
      rintro e w11 ⟨g4, rfl, r4, ss11, b11⟩
      have hgs4 : w8.heap.size ≤ g4 := Nat.le_trans b10.size r4.gs
      have hg14 : g1 ≠ g4 := by have := r1.bk.lt; have := r4.gs; omega
      have hg24 : g2 ≠ g4 := by have := r2.bk.lt; have := r4.gs; omega
      replace r1 := r1.bel b11
      replace r2 := r2.bel b11
      replace b11 := b10.trans (b11.mono b10.size)
      clear b10 ss10 HRW ss11
      have SS8 := Lib.hid ss8
      clear ss8
      have hSI := fun (A0 A1 : Option Addr) (c0 c1 : Nat) (wx : World) h0 h1 => sameInts_any A0 A1 n c0 c1 L wx r4.ln h0 h1 (by omega)
      have HSI := Lib.hid hSI
      clear hSI
      go_wp2_with fail
      with_reducible refine (HSI.out (some ⟨g1, 0, none⟩) (some ⟨g4, 0, none⟩) e1 n w11 r1.rd r4.rd).mono ?_
      rintro e w12 ⟨rfl, b12⟩
      replace r1 := r1.bel b12
      replace r2 := r2.bel b12
      replace r4 := r4.bel b12
      replace b12 := b11.trans (b12.mono b11.size)
      clear b11
      go_wp2_with fail
      with_reducible refine (HSI.out (some ⟨g2, 0, none⟩) (some ⟨g4, 0, none⟩) e2 n w12 r2.rd r4.rd).mono ?_
      rintro e w13 ⟨rfl, b13⟩
      replace r1 := r1.bel b13
      replace r2 := r2.bel b13
      replace r4 := r4.bel b13
      replace b13 := b12.trans (b13.mono b12.size)
      clear b12
      have hgs1 : w8.heap.size ≤ g1 := r1.gs
      have LN := Lib.hid r1.ln
      have hcm1 : e1 ≤ maxLen := r1.cm
      have hcm2 : e2 ≤ maxLen := r2.cm
      have R1 := Lib.hid r1
      have R2 := Lib.hid r2
      have R4 := Lib.hid r4
      have B13 := Lib.hid b13
      clear r1 r2 r4 b13
      go_wp2
      go_loopw [26] (fun ii wr => ∃ (k : Nat) (L1 L2 : List Int), k ≤ n ∧ ii = .int .i64 k ∧ WearR w8 wr g1 e1 n L1 sp1 ∧ WearR w9 wr g2 e2 n L2 sp2 ∧ (∀ j, j < k → L1.getD j 0 = 1000) ∧ (∀ j, j < k → L2.getD j 0 = 2000) ∧ Frm (fun j => j = g1 ∨ j = g2) w13 wr) (fun ii _ => n - (intJ ii))
      case atStart => exact ⟨0, L, L, by omega, rfl, R1.out, R2.out, (fun j hj => by omega), (fun j hj => by omega), Frm.refl _ _⟩
      case round =>
        clear R1 R2
        obtain ⟨k', L1, L2, hk, rfl, r1, r2, hf1, hf2, hf⟩ := hrel
        by_cases hlt : k' < n
        · have hlti : (k' : Int) < (n : Int) := by omega
          have hz1 := r1.bk.frozen k'
          have hz2 := (r2.bk.far (p := ⟨g1, k', none⟩) (fun e => hg12 e.symm) (.int .i64 1000)).frozen k'
          have hc1 : wr.cell? ⟨g1, k', none⟩ = some (.int .i64 (L1.getD k' 0)) := rd_cell r1.rd (iv_at L1 k' (by rw [r1.ln]; exact hlt))
          have hc2 : (wr.setCell ⟨g1, k', none⟩ (.int .i64 1000)).cell? ⟨g2, k', none⟩ = some (.int .i64 (L2.getD k' 0)) := by
            rw [(r2.bk.far (p := ⟨g1, k', none⟩) (fun e => hg12 e.symm) (.int .i64 1000)).cell, List.getElem?_append_left (by rw [iv_len, r2.ln]; exact hlt)]
            exact iv_at L2 k' (by rw [r2.ln]; exact hlt)
          have q1 : WearR w8 ((wr.setCell ⟨g1, k', none⟩ (.int .i64 1000)).setCell ⟨g2, k', none⟩ (.int .i64 2000)) g1 e1 n (L1.set k' 1000) sp1 := by
            have h := r1.set k' 1000 hlt
            exact ⟨h.bk.far (p := ⟨g2, k', none⟩) hg12 _, h.ln, h.cn, h.nc, h.cm, h.gs⟩
          have q2 : WearR w9 ((wr.setCell ⟨g1, k', none⟩ (.int .i64 1000)).setCell ⟨g2, k', none⟩ (.int .i64 2000)) g2 e2 n (L2.set k' 2000) sp2 := by
            have h : WearR w9 (wr.setCell ⟨g1, k', none⟩ (.int .i64 1000)) g2 e2 n L2 sp2 := ⟨r2.bk.far (p := ⟨g1, k', none⟩) (fun e => hg12 e.symm) _, r2.ln, r2.cn, r2.nc, r2.cm, r2.gs⟩
            exact h.set k' 2000 hlt
          have p1 := fill_set r1.ln hf1 hlt
          have p2 := fill_set r2.ln hf2 hlt
          have ff : Frm (fun j => j = g1 ∨ j = g2) w13 ((wr.setCell ⟨g1, k', none⟩ (.int .i64 1000)).setCell ⟨g2, k', none⟩ (.int .i64 2000)) := (hf.setCell (p := ⟨g1, k', none⟩) (fun _ => .inl rfl) _).setCell (p := ⟨g2, k', none⟩) (fun _ => .inr rfl) _
          generalize L1.getD k' 0 = z1 at hc1
          generalize L2.getD k' 0 = z2 at hc2
          generalize L1.set k' 1000 = L1' at *
          generalize L2.set k' 2000 = L2' at *
          have Q1 := Lib.hid q1
          have Q2 := Lib.hid q2
          have P1 := Lib.hid p1
          have P2 := Lib.hid p2
          have FF := Lib.hid ff
          clear q1 q2 p1 p2 ff r1 r2 hf1 hf2 hf
          go_wp2
          go_roundw
          case rel => exact ⟨k' + 1, L1', L2', by omega, by go_num, Q1.out, Q2.out, P1.out, P2.out, FF.out⟩
          case measure => simp [intJ]; omega
        · obtain rfl : n = k' := by omega
          have B14 : Below w8.heap.size w8 wr := below_frm B13.out B13.out.size hf (fun j hj => by rcases hj with h | h <;> rw [h] <;> assumption)
          have r4 : WearR w10 wr g4 n n L [] := R4.out.frm hf (fun h => by rcases h with h | h; exact hg14 h.symm; exact hg24 h.symm)
          have LN1 := Lib.hid r1.ln
          have LN2 := Lib.hid r2.ln
          have R1 := Lib.hid r1
          have R2 := Lib.hid r2
          have R4 := Lib.hid r4
          have B14 := Lib.hid B14
          clear r1 r2 r4
          have P1 := Lib.hid hf1
          have P2 := Lib.hid hf2
          clear hf1 hf2 hf hlt hk B13
          have hx1 : ∀ j, (Value.slice (some ⟨g1, 0, none⟩) n e1).ownBlock = some j → j = g1 := fun j h => (Option.some.inj h).symm
          have hx2 : ∀ j, (Value.slice (some ⟨g2, 0, none⟩) n e2).ownBlock = some j → j = g2 := fun j h => (Option.some.inj h).symm
          have HX1 := Lib.hid hx1
          have HX2 := Lib.hid hx2
          clear hx1 hx2
          go_wp2_with (at_builtin; first
            | (refine wpList_appx _ rfl (.tmp 142) (.tmp 143) 38 rfl 3 _ 1 8 Try.underlying38 infoI3 rfl (by decide) (n := n) (v := .slice (some ⟨g1, 0, none⟩) n e1) (xs := iv L1) (sp := sp1) rfl (R1.out.owx.alloc _) rfl (by rfl) (rd_new _ _ (iv [1001])) (one_iv [1001]) (by unfold maxLen; omega) (by omega) ?_
               intro v1 w14 sp3 o1 y1
               have r1o : Rd w14 (some ⟨g1, 0, none⟩) (iv L1) := y1.old (R1.out.owx.alloc _) o1
               have f1 := y1.frm
               have ba := B14.out.alloc B14.out.size (.cells #[.int .i64 1001] 3)
               have r2n : WearR w9 w14 g2 e2 n L2 sp2 := (R2.out.bel ((Below.refl _ wr).alloc (Nat.le_refl _) _)).frm f1 (fun h => hg12 (HX1.out _ h).symm)
               have r4n : WearR w10 w14 g4 n n L [] := (R4.out.bel ((Below.refl _ wr).alloc (Nat.le_refl _) _)).frm f1 (fun h => hg14 (HX1.out _ h).symm)
               have b15 : Below w8.heap.size w8 w14 := below_frm ba ba.size f1 (fun j hj => by rw [HX1.out j hj]; exact hgs1)
               obtain ⟨g5, e5, rfl, k5, _, _, hn5, hm5⟩ := o1.blk (by omega)
               have h52 : g5 ≠ g2 := fun e => by
                 rcases y1.at_ with h | h
                 · exact hg12 ((HX1.out _ h.symm).symm.trans e |>.trans rfl)
                 · have h2 := Option.some.inj h
                   have := R2.out.bk.lt
                   simp at h2
                   omega
               have R1O := Lib.hid r1o
               have R2N := Lib.hid r2n
               have R4N := Lib.hid r4n
               have B15 := Lib.hid b15
               have K5 := Lib.hid k5
               clear r1o f1 ba r2n r4n b15 k5 o1 y1)
            | (refine wpList_appx _ rfl (.tmp 145) (.tmp 146) 38 rfl 3 _ 1 8 Try.underlying38 infoI3 rfl (by decide) (n := n) (v := .slice (some ⟨g2, 0, none⟩) n e2) (xs := iv L2) (sp := sp2) rfl (R2N.out.owx.alloc _) rfl (by rfl) (rd_new _ _ (iv [2001])) (one_iv [2001]) (by unfold maxLen; omega) (by omega) ?_
               intro v2 w15 sp4 o2 y2
               have r2o : Rd w15 (some ⟨g2, 0, none⟩) (iv L2) := y2.old (R2N.out.owx.alloc _) o2
               have f2 := y2.frm
               have ba := B15.out.alloc B15.out.size (.cells #[.int .i64 2001] 3)
               have r1n : Rd w15 (some ⟨g1, 0, none⟩) (iv L1) := (R1O.out.alloc _).frm f2 (fun ad e h => by cases e; exact hg12 (HX2.out _ h))
               have r4n : WearR w10 w15 g4 n n L [] := (R4N.out.bel ((Below.refl _ w14).alloc (Nat.le_refl _) _)).frm f2 (fun h => hg24 (HX2.out _ h).symm)
               have b16 : Below w8.heap.size w8 w15 := below_frm ba ba.size f2 (fun j hj => by rw [HX2.out j hj]; exact hgs2)
               have k5n := (K5.out.alloc (.cells #[.int .i64 2001] 3)).frm f2 (fun h => h52 (HX2.out _ h))
               obtain ⟨g6, e6, rfl, k6, _, _, hn6, hm6⟩ := o2.blk (by omega)
               have R1P := Lib.hid r1n
               have R2P := Lib.hid r2o
               have R4P := Lib.hid r4n
               have B16 := Lib.hid b16
               have K5P := Lib.hid k5n
               have K6P := Lib.hid k6
               clear r2o f2 ba r1n r4n b16 k5n k6 o2 y2))
          clear R1 R2 R4 B14 R1O R2N R4N B15 K5 HX1 HX2
          go_loopw [29] (fun ii wx => ∃ k' : Nat, k' ≤ n ∧ ii = .int .i64 k' ∧ wx = w15) (fun ii _ => n - (intJ ii))
          case atStart => exact ⟨0, by omega, rfl, rfl⟩
          case round =>
            obtain ⟨k', hk, rfl, rfl⟩ := hrel
            by_cases hlt : k' < n
            · have hlti : (k' : Int) < (n : Int) := by omega
              have hc1 : wr.cell? ⟨g1, k', none⟩ = some (.int .i64 1000) := by
                have h := rd_cell R1P.out (iv_at L1 k' (by have := LN1.out; omega))
                rw [P1.out k' hlt] at h
                exact h
              have hc2 : wr.cell? ⟨g2, k', none⟩ = some (.int .i64 2000) := by
                have h := rd_cell R2P.out (iv_at L2 k' (by have := LN2.out; omega))
                rw [P2.out k' hlt] at h
                exact h
              go_wp2
              refine ⟨⟨k' + 1, by omega, by go_num, by first | trivial | rfl⟩, ?_⟩
              simp [intJ]
              omega
            · obtain rfl : n = k' := by omega
              have hy1 : wr.cell? ⟨g5, n, none⟩ = some (.int .i64 1001) := by
                rw [K5P.out.cell, List.append_assoc, List.getElem?_append_right (by rw [iv_len, LN1.out]; omega), iv_len, LN1.out, Nat.sub_self]
                rfl
              have hy2 : wr.cell? ⟨g6, n, none⟩ = some (.int .i64 2001) := by
                rw [K6P.out.cell, List.append_assoc, List.getElem?_append_right (by rw [iv_len, LN2.out]; omega), iv_len, LN2.out, Nat.sub_self]
                rfl
              have hn1 : (n : Int) < (n : Int) + 1 := by omega
              have ss := SS8.out.bel HC.out B16.out
              go_wp2_with fail
              with_reducible refine (HW.out _ ss).mono ?_
              rintro e w16 ⟨g7, e7, sp7, rfl, r7, ss16, b16⟩
              have r4 := R4P.out.bel b16
              clear hy1 hy2
              go_wp2_with fail
              with_reducible refine (HSI.out (some ⟨g7, 0, none⟩) (some ⟨g4, 0, none⟩) e7 n w16 r7.rd r4.rd).mono ?_
              rintro e w17 ⟨rfl, b17⟩
              go_wp2
              go_ret
              exact ⟨rfl, ss16.bb.trans (b17.mono ss16.bb.size)⟩
set_option maxRecDepth 100000 in
set_option maxHeartbeats 6400000 in
theorem sees_no (w : World) (b p s : Int) (A : Option Addr) (n c : Nat) (m : List Bool) (hml : m.length = n) (hr : Rd w A (bls m)) (hm : n ≤ 140737488351232) (clean : Bool) (A2 : Option Addr) (n2 c2 : Nat) (blk : Int) (h0 : newE b p s n ≠ 0) :
    Calls Try.prog 3 #[.agg #[.int .i64 b, .int .i64 p, .int .i64 s], .slice A n c, .bool clean, .slice A2 n2 c2, .int .i64 blk] w fun e w' => e = .returned (.bool true) ∧ Below w.heap.size w w' := by
  obtain ⟨w1, hw1⟩ : ∃ x, x = w.alloc (.cells #[.int .i64 b, .int .i64 p, .int .i64 s] 23) := ⟨_, rfl⟩
  have b1 : Below w.heap.size w w1 := by rw [hw1]; exact (Below.refl _ w).alloc (Nat.le_refl _) _
  have kg : Blk w1 w.heap.size 23 [.int .i64 b, .int .i64 p, .int .i64 s] := by rw [hw1]; exact Blk.new w _ [.int .i64 b, .int .i64 p, .int .i64 s]
  have hBG := begun_no w1 b p s A n c m hml (hr.below b1) hm clean h0
  obtain ⟨G, hG⟩ : ∃ G, G = w.heap.size := ⟨_, rfl⟩
  rw [← hG] at kg
  have k0 : w1.cell? ⟨G, 0, none⟩ = some (.int .i64 b) := kg.cell 0
  have k1 : w1.cell? ⟨G, 1, none⟩ = some (.int .i64 p) := kg.cell 1
  have k2 : w1.cell? ⟨G, 2, none⟩ = some (.int .i64 s) := kg.cell 2
  clear hml hr h0 kg
  go_enter Try.func3, Try.ntmps3
  go_wp2_with fail
  rw [← hw1, ← hG]
  clear hw1 hG
  with_reducible refine hBG.mono ?_
  rintro e w6 ⟨q, rfl, b6⟩
  go_wp2
  go_ret
  exact ⟨rfl, b1.trans (b6.mono b1.size)⟩
theorem sees_walk (w : World) (b p s : Int) (hbI : -9223372036854775808 ≤ b ∧ b ≤ 9223372036854775807) (hpI : -9223372036854775808 ≤ p ∧ p ≤ 9223372036854775807) (hsI : -9223372036854775808 ≤ s ∧ s ≤ 9223372036854775807) (A : Option Addr) (n c : Nat) (m : List Bool) (hml : m.length = n) (hr : Rd w A (bls m)) (hm : n ≤ 140737488351232) (clean : Bool) (A2 : Option Addr) (n2 c2 : Nat) (l : List Cmd) (hll : l.length = n2) (hr2 : Rd w A2 (cmdV l)) (hI : CmdsI l) (hm2 : n2 ≤ 4398046510976) (blk : Int) (hb1 : -9223372036854775808 ≤ blk) (hb2 : blk ≤ 9223372036854775807) :
    Calls Try.prog 3 #[.agg #[.int .i64 b, .int .i64 p, .int .i64 s], .slice A n c, .bool clean, .slice A2 n2 c2, .int .i64 blk] w fun e w' => e = .returned (.bool true) ∧ Below w.heap.size w w' := by
  by_cases h0 : newE b p s n = 0
  · exact sees_ok w b p s A n c m hml hr clean A2 n2 c2 l hll hr2 hI hm2 blk ⟨hb1, hb2⟩ h0
  · exact sees_no w b p s A n c m hml hr hm clean A2 n2 c2 blk h0
end Go.Proofs.Ytagfcndpblekkaa
