/- The walk of the law JudgeTurns: a judge that can be. -/
import Derived.Test.YtagfcndpblekkaaJt1
namespace Go.Proofs.Ytagfcndpblekkaa
open Go.RowKit Go.Maps
set_option linter.unusedVariables false
set_option linter.unusedSimpArgs false
theorem JQ.mono {w : World} {a : JA} {Bn : Nat} {p s : Int} {m : List Bool} {clean : Bool} {seen : List Cmd} {n n' : Nat} (h : JQ w a Bn p s m clean seen n) (hn : n ≤ n') : JQ w a Bn p s m clean seen n' := by
  obtain ⟨J, h1, h2⟩ := h
  exact ⟨J, h1.mono hn, h2⟩
theorem nextS_len (B p : Int) (m : List Bool) (clean : Bool) (seen : List Cmd) (c : Cmd) {k : Nat} (h : seen.length ≤ k) : (nextS B p m clean seen c).length ≤ k + 1 := by
  unfold nextS
  split
  · simp; omega
  · omega
theorem nextS_yes {B p : Int} {m : List Bool} {clean : Bool} {seen : List Cmd} {c : Cmd} (h : kpR B p m clean seen c = true) : nextS B p m clean seen c = seen ++ [c] := by unfold nextS; rw [if_pos h]
/-- What the loop of JudgeTurns has found so far. -/
def FirstP (f : Nat → Bool) (R fz : Int) (l sa : List Cmd) (k : Nat) : Prop := (fz = -1 ∧ sa = l.take k ∧ ∀ j, j < k → f j = true) ∨ (0 ≤ fz ∧ fz = R)
set_option maxRecDepth 100000 in
set_option maxHeartbeats 6400000 in
theorem turns_ok (w : World) (b p s : Int) (A : Option Addr) (n c : Nat) (m : List Bool) (hml : m.length = n) (hr : Rd w A (bls m)) (hm : n ≤ 140737488351232) (clean : Bool) (A2 : Option Addr) (n2 c2 : Nat) (l : List Cmd) (hll : l.length = n2) (hr2 : Rd w A2 (cmdV l)) (hI : CmdsI l) (hm2 : n2 ≤ 4398046510976) (A3 : Option Addr) (n3 c3 : Nat) (l3 : List Cmd) (hll3 : l3.length = n3) (hr3 : Rd w A3 (cmdV l3)) (hI3 : CmdsI l3) (h0 : newE b p s n = 0) :
    Calls Try.prog 5 #[.agg #[.int .i64 b, .int .i64 p, .int .i64 s], .slice A n c, .bool clean, .slice A2 n2 c2, .slice A3 n3 c3] w fun e w' => e = .returned (.bool true) ∧ Below w.heap.size w w' := by
  obtain ⟨hz1, hnb⟩ := newE_zero h0
  have hp0 : 0 ≤ p := by omega
  have hp6 : p ≤ 256 := by omega
  have hn4 : n ≤ 4096 := by omega
  have hn8 : 8 ≤ n := by omega
  obtain ⟨w1, hw1⟩ : ∃ x, x = w.alloc (.cells #[.int .i64 b, .int .i64 p, .int .i64 s] 23) := ⟨_, rfl⟩
  have b1 : Below w.heap.size w w1 := by rw [hw1]; exact (Below.refl _ w).alloc (Nat.le_refl _) _
  have kg : Blk w1 w.heap.size 23 [.int .i64 b, .int .i64 p, .int .i64 s] := by rw [hw1]; exact Blk.new w _ [.int .i64 b, .int .i64 p, .int .i64 s]
  obtain ⟨G, hG⟩ : ∃ G, G = w.heap.size := ⟨_, rfl⟩
  rw [← hG] at kg
  have HGG := Lib.hid hG
  have hC1 := fun (A' : Option Addr) (c' : Nat) (A2' : Option Addr) (c2' : Nat) (wx : World) (h1 : Rd wx A' (bls m)) (h2 : Rd wx A2' (cmdV l)) => Check_x b p s A' n c' m clean A2' n2 c2' l wx hml h1 hll h2 hI (by omega)
  have hRN := fun wx => rNew_any b p s A n c wx
  rw [show ckX b p s n m clean l = ckR b p m clean l by unfold ckX; rw [if_pos h0], h0] at hC1
  rw [h0] at hRN
  have hNw := fun (A' : Option Addr) (c' : Nat) (cl : Bool) wx h1 => New_jq b p s A' n c' m cl wx hml h1 h0
  have hM := fun wx h => marks_any A n c m wx hml h hm
  have hT := fun wx h => trace_any A2 n2 c2 l wx hll h (by omega)
  obtain ⟨f, hf⟩ : ∃ f, f = ckF b p m clean l := ⟨_, rfl⟩
  have hfk : ∀ k, f k = kpR (n : Int) p m clean (l.take k) (l.getD k ⟨0, 0, 0, 0⟩) := fun k => by rw [hf, hnb]; rfl
  have hck : ckR b p m clean l = fstN f n2 0 := by unfold ckR; rw [hll, hf]
  rw [hck] at hC1
  obtain ⟨R, hR⟩ : ∃ R, R = fstN f n2 0 := ⟨_, rfl⟩
  rw [← hR] at hC1
  have hFa : ∀ k, k < n2 → (∀ j, j < k → f j = true) → f k = false → R = (k : Nat) := fun k h1 h2 h3 => hR.trans (fst_at f n2 0 k (by omega) (by omega) (fun j _ g => h2 j g) h3)
  have hFb : (∀ j, j < n2 → f j = true) → R = -1 := fun h1 => hR.trans (fst_all f n2 0 (fun j _ g => h1 j (by omega)))
  have htk := fun k h => take_snoc l k h
  have H1 := Lib.hid hC1
  have H2 := Lib.hid hRN
  have H3 := Lib.hid hM
  have H4 := Lib.hid hT
  have H5 := Lib.hid hNw
  have HFK := Lib.hid hfk
  have HFA := Lib.hid hFa
  have HFB := Lib.hid hFb
  have HTK := Lib.hid htk
  have HLL := Lib.hid hll
  have HL3 := Lib.hid hll3
  have HI := Lib.hid hI
  have HI3 := Lib.hid hI3
  have HNB := Lib.hid hnb
  clear hC1 hRN hM hT hNw hml hll hI h0 hf hfk hck hR hFa hFb htk hll3 hI3 hnb hz1
  have k0 : w1.cell? ⟨G, 0, none⟩ = some (.int .i64 b) := kg.cell 0
  have k1 : w1.cell? ⟨G, 1, none⟩ = some (.int .i64 p) := kg.cell 1
  have k2 : w1.cell? ⟨G, 2, none⟩ = some (.int .i64 s) := kg.cell 2
  go_enter Try.func5, Try.ntmps5
  go_wp2_with fail
  rw [← hw1, ← hG]
  clear hw1 hG
  with_reducible refine (H2.out w1).mono ?_
  rintro e w2 ⟨rfl, b2⟩
  replace kg := kg.bel b2
  replace b2 := b1.trans (b2.mono b1.size)
  clear b1 k0 k1 k2
  have HRA := Lib.hid (rd_keep (hr.below b2))
  have HRB := Lib.hid (rd_keep (hr2.below b2))
  have KG := Lib.hid (show ∀ wx, Below w2.heap.size w2 wx → wx.cell? ⟨G, 0, none⟩ = some (.int .i64 b) ∧ wx.cell? ⟨G, 1, none⟩ = some (.int .i64 p) ∧ wx.cell? ⟨G, 2, none⟩ = some (.int .i64 s) from fun wx hb => ⟨(kg.bel hb).cell 0, (kg.bel hb).cell 1, (kg.bel hb).cell 2⟩)
  go_upto_region 2 with fail
  go_cut [12, 13] (fun x12 x13 wx => x12 = .int .i64 R ∧ x13 = .int .i64 0 ∧ Below w2.heap.size w2 wx)
  case first =>
    have b0 : Below w2.heap.size w2 w2.drew := bel_drew (Below.refl _ _)
    go_region_held3 (fun wx => wx.cell? ⟨G, 0, none⟩ = some (.int .i64 b) ∧ wx.cell? ⟨G, 1, none⟩ = some (.int .i64 p) ∧ wx.cell? ⟨G, 2, none⟩ = some (.int .i64 s)) (exact KG.out _ (by assumption)) (first
      | (go_at_call 18; (with_reducible refine (H3.out _ (HRA.out _ b0)).mono ?_); rintro e w3 ⟨g3, c3, sp3, rfl, r3', h31, _, h32, h33, b3⟩; have r3 := rd_two r3'; (try replace r4 := r4.below b3); replace b0 := b0.trans (b3.mono b0.size); clear b3 r3'; dsimp only)
      | (go_at_call 19; (with_reducible refine (H4.out _ (HRB.out _ b0)).mono ?_); rintro e w4 ⟨g4, c4, sp4, rfl, r4', h41, _, h42, h43, b4⟩; have r4 := rd_two r4'; (try replace r3 := r3.below b4); replace b0 := b0.trans (b4.mono b0.size); clear b4 r4'; dsimp only)
      | (go_at_call 20; (with_reducible refine (H1.out _ _ _ _ _ r3 r4).mono ?_); rintro e w5 ⟨rfl, b5⟩; replace b0 := b0.trans (b5.mono b0.size); clear b5 r3 r4; dsimp only))
    all_goals
      go_wp2_with fail
      go_meet
      exact ⟨rfl, rfl, b0⟩
  case rest =>
  obtain ⟨rfl, rfl, b6⟩ := hcut
  generalize wc = w6 at *
  have KG := Lib.hid (show ∀ wx, Below w6.heap.size w6 wx → wx.cell? ⟨G, 0, none⟩ = some (.int .i64 b) ∧ wx.cell? ⟨G, 1, none⟩ = some (.int .i64 p) ∧ wx.cell? ⟨G, 2, none⟩ = some (.int .i64 s) from fun wx hb => KG.out wx (b6.trans (hb.mono b6.size)))
  have HRA := Lib.hid (show ∀ wx, Below w6.heap.size w6 wx → Rd wx A (bls m) from fun wx hb => HRA.out wx (b6.trans (hb.mono b6.size)))
  have b26 := b2.trans (b6.mono b2.size)
  go_upto_region 3 with fail
  go_cut [14, 15] (fun x14 x15 wx => ∃ a : JA, x14 = .pointer (some ⟨a.q, 0, none⟩) ∧ x15 = .int .i64 0 ∧ JQ wx a n p s m clean [] n ∧ (∀ k, a.own k → w6.heap.size ≤ k) ∧ Below w6.heap.size w6 wx)
  case first =>
    have b0 : Below w6.heap.size w6 w6.drew := bel_drew (Below.refl _ _)
    go_region_held3 (fun wx => wx.cell? ⟨G, 0, none⟩ = some (.int .i64 b) ∧ wx.cell? ⟨G, 1, none⟩ = some (.int .i64 p) ∧ wx.cell? ⟨G, 2, none⟩ = some (.int .i64 s)) (exact KG.out _ (by assumption)) (first
      | (go_at_call 18; (with_reducible refine (H3.out _ (HRA.out _ b0)).mono ?_); rintro e w3 ⟨g3, c3, sp3, rfl, r3', h31, _, h32, h33, b3⟩; have r3 := rd_two r3'; (try replace r4 := r4.below b3); replace b0 := b0.trans (b3.mono b0.size); clear b3 r3'; dsimp only)
      | (go_at_call 24; (with_reducible refine (H5.out _ _ _ _ r3).mono ?_); rintro e w5 ⟨a, rfl, hq, hown, b5⟩; have hown2 : ∀ k, a.own k → w6.heap.size ≤ k := fun k hk => Nat.le_trans b0.size (hown k hk); replace b0 := b0.trans (b5.mono b0.size); clear b5 r3 hown; dsimp only))
    all_goals
      go_wp2_with fail
      go_meet
      exact ⟨a, rfl, rfl, hq, hown2, b0⟩
  case rest =>
  obtain ⟨a, rfl, rfl, hqa, hoa, b7⟩ := hcut
  generalize wc = w7 at *
  have KG := Lib.hid (show ∀ wx, Below w7.heap.size w7 wx → wx.cell? ⟨G, 0, none⟩ = some (.int .i64 b) ∧ wx.cell? ⟨G, 1, none⟩ = some (.int .i64 p) ∧ wx.cell? ⟨G, 2, none⟩ = some (.int .i64 s) from fun wx hb => KG.out wx (b7.trans (hb.mono b7.size)))
  have HRA := Lib.hid (show ∀ wx, Below w7.heap.size w7 wx → Rd wx A (bls m) from fun wx hb => HRA.out wx (b7.trans (hb.mono b7.size)))
  have b27 := b26.trans (b7.mono b26.size)
  go_upto_region 4 with fail
  go_cut [16, 17] (fun x16 x17 wx => ∃ a : JA, x16 = .pointer (some ⟨a.q, 0, none⟩) ∧ x17 = .int .i64 0 ∧ JQ wx a n p s m (!clean) [] n ∧ (∀ k, a.own k → w7.heap.size ≤ k) ∧ Below w7.heap.size w7 wx)
  case first =>
    have b0 : Below w7.heap.size w7 w7.drew := bel_drew (Below.refl _ _)
    go_region_held3 (fun wx => wx.cell? ⟨G, 0, none⟩ = some (.int .i64 b) ∧ wx.cell? ⟨G, 1, none⟩ = some (.int .i64 p) ∧ wx.cell? ⟨G, 2, none⟩ = some (.int .i64 s)) (exact KG.out _ (by assumption)) (first
      | (go_at_call 18; (with_reducible refine (H3.out _ (HRA.out _ b0)).mono ?_); rintro e w3 ⟨g3, c3, sp3, rfl, r3', h31, _, h32, h33, b3⟩; have r3 := rd_two r3'; (try replace r4 := r4.below b3); replace b0 := b0.trans (b3.mono b0.size); clear b3 r3'; dsimp only)
      | (go_at_call 24; (with_reducible refine (H5.out _ _ _ _ r3).mono ?_); rintro e w5 ⟨a, rfl, hq, hown, b5⟩; have hown2 : ∀ k, a.own k → w7.heap.size ≤ k := fun k hk => Nat.le_trans b0.size (hown k hk); replace b0 := b0.trans (b5.mono b0.size); clear b5 r3 hown; dsimp only))
    all_goals
      go_wp2_with fail
      go_meet
      exact ⟨a, rfl, rfl, hq, hown2, b0⟩
  case rest =>
  obtain ⟨a2, rfl, rfl, hqb, hob, b8⟩ := hcut
  generalize wc = w8 at *
  have hdis : ∀ k, a.own k → a2.own k → False := fun k h1 h2 => by
    have h3 := hob k h2
    have h4 := hqa.lt k h1
    omega
  replace hqa := hqa.bel b8
  have b28 := b27.trans (b8.mono b27.size)
  have ha0 : ∀ k, a.own k → w.heap.size ≤ k := fun k h => Nat.le_trans b26.size (hoa k h)
  have hb0 : ∀ k, a2.own k → w.heap.size ≤ k := fun k h => Nat.le_trans b27.size (hob k h)
  have hga : ∀ k, a.own k → k ≠ G := fun k h e => by
    have h1 := hoa k h
    have h2 := kg.lt
    have h3 := b6.size
    omega
  have hgb : ∀ k, a2.own k → k ≠ G := fun k h e => by
    have h1 := hob k h
    have h2 := kg.lt
    have h3 := b6.size
    have h4 := b7.size
    omega
  replace kg := kg.bel (b6.trans ((b7.trans (b8.mono b7.size)).mono b6.size))
  have HGA := Lib.hid hga
  have HGB := Lib.hid hgb
  clear hoa hob b26 b27 b6 b7 b8 KG HRA HRB b2 hga hgb
  have HDI := Lib.hid hdis
  have HA0 := Lib.hid ha0
  have HB0 := Lib.hid hb0
  clear hdis ha0 hb0
  go_wp2
  go_loopw [18, 19] (fun fi ii wr => ∃ (k : Nat) (fz : Int) (sa sb : List Cmd), k ≤ n2 ∧ ii = .int .i64 k ∧ fi = .int .i64 fz ∧ JQ wr a n p s m clean sa (n + k) ∧ JQ wr a2 n p s m (!clean) sb (n + k) ∧ sa.length ≤ k ∧ sb.length ≤ k ∧ Below w.heap.size w wr ∧ FirstP f R fz l sa k ∧ Blk wr G 23 [.int .i64 b, .int .i64 p, .int .i64 s]) (fun _ ii _ => n2 - (intJ ii))
  case atStart => exact ⟨0, -1, [], [], by omega, rfl, rfl, hqa, hqb, by simp, by simp, b28, .inl ⟨rfl, rfl, fun j hj => by omega⟩, kg⟩
  case round =>
    clear hqa hqb b28 kg
    obtain ⟨k, fz, sa, sb, hk, rfl, rfl, hqa, hqb, hsa, hsb, bb, hF, kg⟩ := hrel
    by_cases hlt : k < n2
    · have hlti : (k : Int) < (n2 : Int) := by omega
      have HF := Lib.hid hF
      clear hF
      have hnm : n + k < maxLen := by unfold maxLen; omega
      go_upto_if 84 with (fail)
      go_cut [] (fun wx => ∃ sb2, JQ wx a2 n p s m (!clean) sb2 (n + (k + 1)) ∧ sb2.length ≤ k + 1 ∧ JQ wx a n p s m clean sa (n + k) ∧ Below w.heap.size w wx ∧ Blk wx G 23 [.int .i64 b, .int .i64 p, .int .i64 s])
      case first =>
        by_cases hk3 : k < n3
        · have hk3i : (k : Int) < (n3 : Int) := by omega
          obtain ⟨ad, rfl, d0, d1, d2, d3⟩ := rd_cmd (hr3.below bb) k (by have := HL3.out; omega)
          have hci := HI3.out k (by have := HL3.out; omega)
          generalize l3.getD k ⟨0, 0, 0, 0⟩ = cc at *
          obtain ⟨ck, cb, cp, cs⟩ := cc
          simp only at d0 d1 d2 d3
          have hS := See_any a2 n p s m (!clean) sb (n + k) ⟨ck, cb, cp, cs⟩ wr hqb hci hnm hp0 hp6 (by omega)
          have HS := Lib.hid hS
          clear hS hci
          go_wp2_with fail
          with_reducible refine HS.out.mono ?_
          rintro e w4 ⟨rfl, hq4, hf4⟩
          go_wp2
          go_meet
          exact ⟨_, hq4, nextS_len _ _ _ _ _ _ hsb, hqa.frm hf4 (fun k h1 h2 => HDI.out k h1 h2), below_frm bb bb.size hf4 HB0.out, kg.frm hf4 (fun h => HGB.out _ h rfl)⟩
        · have hk3i : ¬ (k : Int) < (n3 : Int) := by omega
          go_wp2
          go_meet
          exact ⟨sb, hqb.mono (by omega), by omega, hqa, bb, kg⟩
      case rest =>
      clear hqa hqb hsb bb kg
      obtain ⟨sb2, hqb, hsb, hqa, bb, kg⟩ := hcut
      generalize wc = w4 at *
      obtain ⟨ad, rfl, d0, d1, d2, d3⟩ := rd_cmd (hr2.below bb) k (by have := HLL.out; omega)
      have hci := HI.out k (by have := HLL.out; omega)
      have hfk := HFK.out k
      have htk := HTK.out k (by have := HLL.out; omega)
      generalize l.getD k ⟨0, 0, 0, 0⟩ = cc at *
      obtain ⟨ck, cb, cp, cs⟩ := cc
      simp only at d0 d1 d2 d3
      have hS := See_any a n p s m clean sa (n + k) ⟨ck, cb, cp, cs⟩ w4 hqa hci hnm hp0 hp6 (by omega)
      have hlen := nextS_len (n : Int) p m clean sa ⟨ck, cb, cp, cs⟩ hsa
      have hyes := @nextS_yes (n : Int) p m clean sa ⟨ck, cb, cp, cs⟩
      have HS := Lib.hid hS
      have HFK2 := Lib.hid hfk
      have HTK2 := Lib.hid htk
      have HYE := Lib.hid hyes
      clear hS hci hfk htk hyes
      generalize nextS (n : Int) p m clean sa ⟨ck, cb, cp, cs⟩ = sn at *
      go_wp2_with fail
      with_reducible refine HS.out.mono ?_
      rintro e w5 ⟨rfl, hq5, hf5⟩
      have bb5 := below_frm bb bb.size hf5 HA0.out
      replace kg := kg.frm hf5 (fun h => HGA.out _ h rfl)
      have hqb5 := hqb.frm hf5 (fun k h1 h2 => HDI.out k h2 h1)
      clear HS hqa hqb bb hf5 d0 d1 d2 d3
      cases hV : kpR (n : Int) p m clean sa ⟨ck, cb, cp, cs⟩ with
      | true =>
        have hF2 : FirstP f R fz l sn (k + 1) := by
          rcases HF.out with ⟨h1, h2, h3⟩ | h
          · refine .inl ⟨h1, by rw [HYE.out hV, HTK2.out, h2], fun j hj => ?_⟩
            by_cases e : j = k
            · rw [e, HFK2.out, ← h2]; exact hV
            · exact h3 j (by omega)
          · exact .inr h
        have HF2 := Lib.hid hF2
        clear hV hF2
        go_wp2
        go_roundw
        case rel => exact ⟨k + 1, fz, sn, sb2, by omega, by go_num, rfl, hq5, hqb5, hlen, hsb, bb5, HF2.out, kg⟩
        case measure => simp [intJ]; omega
      | false =>
        rcases HF.out with ⟨h1, h2, h3⟩ | ⟨h1, h2⟩
        · subst h1
          have hR : R = (k : Nat) := HFA.out k hlt h3 (by rw [HFK2.out, ← h2]; exact hV)
          have HR := Lib.hid hR
          clear h2 h3 hV hR HF
          go_wp2
          go_roundw
          case rel => exact ⟨k + 1, k, sn, sb2, by omega, by go_num, rfl, hq5, hqb5, hlen, hsb, bb5, .inr ⟨by omega, HR.out.symm⟩, kg⟩
          case measure => simp [intJ]; omega
        · have HR := Lib.hid h2
          have h1b : ¬ fz < 0 := by omega
          clear h2 hV HF
          go_wp2
          go_roundw
          case rel => exact ⟨k + 1, fz, sn, sb2, by omega, by go_num, rfl, hq5, hqb5, hlen, hsb, bb5, .inr ⟨h1, HR.out⟩, kg⟩
          case measure => simp [intJ]; omega
    · obtain rfl : k = n2 := by omega
      have hRz : R = fz := by
        rcases hF with ⟨h1, h2, h3⟩ | ⟨h1, h2⟩
        · rw [h1]; exact HFB.out h3
        · exact h2.symm
      subst hRz
      have hS1 := See_any a n p s m clean sa (n + k) ⟨3, 0, 0, 0⟩ wr hqa (by unfold CmdI I64; simp) (by unfold maxLen; omega) hp0 hp6 (by omega)
      rw [kp_mark sa 0 0 ⟨by omega, by omega⟩ (.inl rfl)] at hS1
      have hlen := nextS_len (n : Int) p m clean sa ⟨3, 0, 0, 0⟩ hsa
      generalize nextS (n : Int) p m clean sa ⟨3, 0, 0, 0⟩ = sn at *
      have hS2 := fun wx hx => See_any a n p s m clean sn (n + k + 1) ⟨3, b, 0, 0⟩ wx hx (by have := HNB.out; unfold CmdI I64; simp; omega) (by unfold maxLen; omega) hp0 hp6 (by omega)
      have hno : kpR (n : Int) p m clean sn ⟨3, b, 0, 0⟩ = false := decide_eq_false (fun q => by have h1 : b < (n : Int) := q.2.1.2; have h2 := HNB.out; omega)
      rw [hno] at hS2
      have HS1 := Lib.hid hS1
      have HS2 := Lib.hid hS2
      clear hS1 hS2 hno hF hqb hqa
      go_wp2_with fail
      with_reducible refine HS1.out.mono ?_
      rintro e w5 ⟨rfl, hq5, hf5⟩
      have bb5 := below_frm bb bb.size hf5 HA0.out
      replace kg := kg.frm hf5 (fun h => HGA.out _ h rfl)
      have kg0 : w5.cell? ⟨G, 0, none⟩ = some (.int .i64 b) := kg.cell 0
      clear bb hf5 kg
      go_wp2_with fail
      with_reducible refine (HS2.out _ hq5).mono ?_
      rintro e w6 ⟨rfl, hq6, hf6⟩
      have bb6 := below_frm bb5 bb5.size hf6 HA0.out
      clear bb5 hf6 hq5 hq6 kg0
      go_wp2
      go_ret
      exact ⟨rfl, bb6⟩
end Go.Proofs.Ytagfcndpblekkaa
