/- The walk of the law JudgeFronts: a judge that can be. -/
import Derived.Test.YtagfcndpblekkaaJf0
import Derived.Test.YtagfcndpblekkaaJlh
namespace Go.Proofs.Ytagfcndpblekkaa
open Go.RowKit Go.Maps
set_option linter.unusedVariables false
set_option linter.unusedSimpArgs false
set_option maxRecDepth 100000 in
set_option maxHeartbeats 12800000 in
theorem fronts_yes (w : World) (b p s : Int) (A : Option Addr) (n c : Nat) (m : List Bool) (hml : m.length = n) (hr : Rd w A (bls m)) (hm : n ≤ 1048576) (clean : Bool) (A2 : Option Addr) (n2 c2 : Nat) (l : List Cmd) (hll : l.length = n2) (hr2 : Rd w A2 (cmdV l)) (hI : CmdsI l) (hm2 : n2 ≤ 1048576) (hcap : n2 ≤ c2 ∧ c2 ≤ maxLen) (at_ blk : Int) (hatI : -9223372036854775808 ≤ at_ ∧ at_ ≤ 9223372036854775807) (hblI : -9223372036854775808 ≤ blk ∧ blk ≤ 9223372036854775807) (A3 : Option Addr) (n3 c3 : Nat) (l3 : List Cmd) (hl3 : l3.length = n3) (hr3 : Rd w A3 (cmdV l3)) (hI3 : CmdsI l3) (hm3 : n3 ≤ 1048576) (h0 : newE b p s n = 0) :
    Calls Try.prog 6 #[.agg #[.int .i64 b, .int .i64 p, .int .i64 s], .slice A n c, .bool clean, .slice A2 n2 c2, .int .i64 at_, .int .i64 blk, .slice A3 n3 c3] w fun e w' => e = .returned (.bool true) ∧ Below w.heap.size w w' := by
  obtain ⟨hz1, hnb⟩ := newE_zero h0
  obtain ⟨w1, hw1⟩ : ∃ x, x = w.alloc (.cells #[.int .i64 b, .int .i64 p, .int .i64 s] 23) := ⟨_, rfl⟩
  have b1 : Below w.heap.size w w1 := by rw [hw1]; exact (Below.refl _ w).alloc (Nat.le_refl _) _
  have kg : Blk w1 w.heap.size 23 [.int .i64 b, .int .i64 p, .int .i64 s] := by rw [hw1]; exact Blk.new w _ [.int .i64 b, .int .i64 p, .int .i64 s]
  obtain ⟨G, hG⟩ : ∃ G, G = w.heap.size := ⟨_, rfl⟩
  rw [← hG] at kg
  have hRN := fun wx => rNew_any b p s A n c wx
  have hM := fun wx h => marks_any A n c m wx hml h (by omega)
  have hck : ∀ L, ckX b p s n m clean L = ckR b p m clean L := fun L => by unfold ckX; rw [if_pos h0]
  rw [h0] at hRN
  -- the place
  obtain ⟨X, hX⟩ : ∃ X, X = ckR b p m clean l := ⟨_, rfl⟩
  have hXc : X = -1 ∨ ∃ x : Nat, x < n2 ∧ X = x := by
    rcases ck_cases (B := b) (pg := p) (m := m) (clean := clean) l with ⟨h1, _⟩ | ⟨k, h1, h2, _⟩
    · exact .inl (hX.trans h1)
    · exact .inr ⟨k, by omega, hX.trans h2⟩
  -- at, block
  obtain ⟨a, ha⟩ : ∃ a : Nat, a = if at_ < 0 ∨ (n2 : Int) < at_ then n2 else at_.toNat := ⟨_, rfl⟩
  have hat : (at_ < 0 ∨ (n2 : Int) < at_) → a = n2 := fun h => by rw [ha, if_pos h]
  have haf : ¬ (at_ < 0 ∨ (n2 : Int) < at_) → at_ = a := fun h => by rw [ha, if_neg h, Int.toNat_of_nonneg (by omega)]
  have han : a ≤ n2 := by rw [ha]; split <;> omega
  clear ha
  obtain ⟨K, hK⟩ : ∃ K, K = if blk < 0 ∨ b ≤ blk then 0 else blk := ⟨_, rfl⟩
  have hKt : (blk < 0 ∨ b ≤ blk) → K = 0 := fun h => by rw [hK, if_pos h]
  have hKf : ¬ (blk < 0 ∨ b ≤ blk) → K = blk := fun h => by rw [hK, if_neg h]
  have hKr : 0 ≤ K ∧ K < b := by rw [hK]; split <;> omega
  clear hK
  -- what Check tells of the four traces
  obtain ⟨Fr, hFr⟩ : ∃ x, x = ckR b p m clean (l.take a) := ⟨_, rfl⟩
  have hFv : Fr = if 0 ≤ X ∧ X < (a : Int) then X else -1 := by rw [hFr, hX]; exact ck_front l a (by omega)
  obtain ⟨Wi, hWi⟩ : ∃ x, x = ckR b p m clean (l.take a ++ ([⟨3, K, 0, 44⟩] ++ l.drop a)) := ⟨_, rfl⟩
  have hWv : Wi = if X < (a : Int) then X else X + 1 := by rw [hWi, hX]; exact ck_failed l a (by omega) K hKr
  obtain ⟨Lo, hLo⟩ : ∃ x, x = ckR b p m clean (l ++ l3) := ⟨_, rfl⟩
  have hLv : (X < 0 → Lo = -1 ∨ (n2 : Int) ≤ Lo) ∧ (0 ≤ X → Lo = X) := by rw [hLo, hX, ← hll]; exact ck_longer l l3
  have hlT : (l.take a).length = a := by rw [List.length_take]; omega
  have hlD : (l.drop a).length = n2 - a := by rw [List.length_drop]; omega
  have hwl : (l.take a ++ ([(⟨3, K, 0, 44⟩ : Cmd)] ++ l.drop a)).length = n2 + 1 := by simp; omega
  have hll3 : (l ++ l3).length = n2 + n3 := by rw [List.length_append]; omega
  have hIT := cmdsI_take hI a
  have hwI : CmdsI (l.take a ++ ([⟨3, K, 0, 44⟩] ++ l.drop a)) := cmdsI_app hIT (cmdsI_app (fun j hj => by
    obtain rfl : j = 0 := by simpa using hj
    unfold CmdI I64
    simp
    omega) (cmdsI_drop hI a))
  have hIL : CmdsI (l ++ l3) := cmdsI_app hI hI3
  have hC1 := fun (A' : Option Addr) (c' : Nat) (A2' : Option Addr) (c2' : Nat) (wx : World) (h1 : Rd wx A' (bls m)) (h2 : Rd wx A2' (cmdV l)) => Check_x b p s A' n c' m clean A2' n2 c2' l wx hml h1 hll h2 hI (by omega)
  rw [hck l, h0, ← hX] at hC1
  have hC2 := fun (A' : Option Addr) (c' : Nat) (A2' : Option Addr) (c2' : Nat) (wx : World) (h1 : Rd wx A' (bls m)) (h2 : Rd wx A2' (cmdV (l.take a))) => Check_x b p s A' n c' m clean A2' a c2' (l.take a) wx hml h1 hlT h2 hIT (by omega)
  rw [hck (l.take a), h0, ← hFr] at hC2
  have hC3 := fun (A' : Option Addr) (c' : Nat) (A2' : Option Addr) (c2' : Nat) (wx : World) (h1 : Rd wx A' (bls m)) (h2 : Rd wx A2' (cmdV (l.take a ++ ([(⟨3, K, 0, 44⟩ : Cmd)] ++ l.drop a)))) => Check_x b p s A' n c' m clean A2' (n2 + 1) c2' (l.take a ++ ([(⟨3, K, 0, 44⟩ : Cmd)] ++ l.drop a)) wx hml h1 hwl h2 hwI (by omega)
  rw [hck (l.take a ++ ([(⟨3, K, 0, 44⟩ : Cmd)] ++ l.drop a)), h0, ← hWi] at hC3
  have hC4 := fun (A' : Option Addr) (c' : Nat) (A2' : Option Addr) (c2' : Nat) (wx : World) (h1 : Rd wx A' (bls m)) (h2 : Rd wx A2' (cmdV (l ++ l3))) => Check_x b p s A' n c' m clean A2' (n2 + n3) c2' (l ++ l3) wx hml h1 hll3 h2 hIL (by omega)
  rw [hck (l ++ l3), h0, ← hLo] at hC4
  have hT1 := fun wx h => trace_any A2 n2 c2 l wx hll h (by omega)
  have hT2 := fun wx h => trace_any A2 a c2 (l.take a) wx hlT h (by omega)
  have hT3 := fun A' c' wx h => trace_any A' (n2 + 1) c' (l.take a ++ ([⟨3, K, 0, 44⟩] ++ l.drop a)) wx hwl h (by omega)
  have hT4 := fun A' c' wx h => trace_any A' (n2 + n3) c' (l ++ l3) wx hll3 h (by omega)
  obtain ⟨AD, cD, hsd, hrd⟩ := sl_fromC A2 n2 c2 a han hcap.1 hcap.2
  have hsa := sl_toC A2 n2 c2 a (by omega) hcap.2
  have hrT := fun wx hx => rd_takeC (w := wx) (A := A2) (l := l) hx a
  have hrX := fun wx hx => hrd wx l hll hx
  clear hFr hWi hLo hX hrd
  have H1 := Lib.hid hC1
  have H2 := Lib.hid hRN
  have H3 := Lib.hid hM
  have H4 := Lib.hid hT1
  have H5 := Lib.hid hC2
  have H6 := Lib.hid hT2
  have H7 := Lib.hid hC3
  have H8 := Lib.hid hT3
  have H9 := Lib.hid hC4
  have H10 := Lib.hid hT4
  have HX := Lib.hid hXc
  have HAT := Lib.hid hat
  have HAF := Lib.hid haf
  have HAN := Lib.hid han
  have HKT := Lib.hid hKt
  have HKF := Lib.hid hKf
  have HFV := Lib.hid hFv
  have HWV := Lib.hid hWv
  have HLV := Lib.hid hLv
  have HLT := Lib.hid hlT
  have HLD := Lib.hid hlD
  have HRT := Lib.hid hrT
  have HRX := Lib.hid hrX
  have HLL := Lib.hid hll
  have HL3 := Lib.hid hl3
  have HSA := Lib.hid hsa
  have HSD := Lib.hid hsd
  clear hC1 hC2 hC3 hC4 hT1 hT2 hT3 hT4 hRN hM hml hll hI h0 hck hXc hat haf han hKt hKf hKr hFv hWv hLv hlT hlD hwl hll3 hIT hwI hIL hsd hsa hrT hrX hl3 hI3 hcap hz1 hnb
  generalize l.take a = LT at *
  generalize l.drop a = LD at *
  have k0 : w1.cell? ⟨G, 0, none⟩ = some (.int .i64 b) := kg.cell 0
  have k1 : w1.cell? ⟨G, 1, none⟩ = some (.int .i64 p) := kg.cell 1
  have k2 : w1.cell? ⟨G, 2, none⟩ = some (.int .i64 s) := kg.cell 2
  go_enter Try.func6, Try.ntmps6
  go_wp2_with fail
  rw [← hw1, ← hG]
  clear hw1 hG
  with_reducible refine (H2.out w1).mono ?_
  rintro e w2 ⟨rfl, b2⟩
  replace kg := kg.bel b2
  replace b2 := b1.trans (b2.mono b1.size)
  clear b1 k0 k1 k2
  have HRA := Lib.hid (rd_keep (hr.below b2))
  have HRB := Lib.hid (rd_keep (hr2.below b2))
  have KG := Lib.hid (show ∀ wx, Below w2.heap.size w2 wx → wx.cell? ⟨G, 0, none⟩ = some (.int .i64 b) ∧ wx.cell? ⟨G, 1, none⟩ = some (.int .i64 p) ∧ wx.cell? ⟨G, 2, none⟩ = some (.int .i64 s) from fun wx hb => ⟨(kg.bel hb).cell 0, (kg.bel hb).cell 1, (kg.bel hb).cell 2⟩)
  have HRC := Lib.hid (rd_keep (hr3.below b2))
  replace HRT := Lib.hid (show ∀ wx, Below w2.heap.size w2 wx → Rd wx A2 (cmdV LT) from fun wx hb => HRT.out wx (HRB.out wx hb))
  replace HRX := Lib.hid (show ∀ wx, Below w2.heap.size w2 wx → Rd wx AD (cmdV LD) from fun wx hb => HRX.out wx (HRB.out wx hb))
  go_upto_region 2 with fail
  go_cut [16, 17] (fun x16 x17 wx => x16 = .int .i64 X ∧ x17 = .int .i64 0 ∧ Below w2.heap.size w2 wx)
  case first =>
    as_aux_lemma =>
    have b0 : Below w2.heap.size w2 w2.drew := bel_drew (Below.refl _ _)
    go_region_held3 (fun wx => wx.cell? ⟨G, 0, none⟩ = some (.int .i64 b) ∧ wx.cell? ⟨G, 1, none⟩ = some (.int .i64 p) ∧ wx.cell? ⟨G, 2, none⟩ = some (.int .i64 s)) (exact KG.out _ (by assumption)) (first
      | (go_at_call 18; (with_reducible refine (H3.out _ (HRA.out _ b0)).mono ?_); rintro e w3 ⟨g3, c3, sp3, rfl, r3', h31, _, h32, h33, b3⟩; have r3 := rd_two r3'; (try replace r4 := r4.below b3); replace b0 := b0.trans (b3.mono b0.size); clear b3 r3'; dsimp only)
      | (go_at_call 19; (with_reducible refine (H4.out _ (HRB.out _ b0)).mono ?_); rintro e w4 ⟨g4, c4, sp4, rfl, r4', h41, _, h42, h43, b4⟩; have r4 := rd_two r4'; (try replace r3 := r3.below b4); replace b0 := b0.trans (b4.mono b0.size); clear b4 r4'; dsimp only)
      | (go_at_call 20; (with_reducible refine (H1.out _ _ _ _ _ r3 r4).mono ?_); rintro e w5 ⟨rfl, b5⟩; replace b0 := b0.trans (b5.mono b0.size); clear b5 r3 r4; dsimp only))
    all_goals
      go_wp2_with fail
      go_meet
      exact ⟨rfl, rfl, b0⟩
  case rest =>
  obtain ⟨rfl, rfl, b6⟩ := hcut
  generalize wc = w6 at *
  clear H1 H2 H4
  have h02 : n2 ≤ 1048576 := hm2
  go_upto_region 5 with fail
  go_cut [54] (fun x wx => ∃ sb, x = .bool sb ∧ (sb = true → a = n2) ∧ (sb = false → at_ = a) ∧ wx = w6)
  case first =>
    as_aux_lemma =>
    by_cases hk1 : at_ < 0
    · have hk := HAT.out (.inl hk1)
      clear HAT HAF
      go_wp2_with fail
      go_meet
      exact ⟨true, rfl, fun _ => hk, (fun h => by cases h), rfl⟩
    · by_cases hk2 : (n2 : Int) < at_
      · have hk := HAT.out (.inr hk2)
        clear HAT HAF
        go_wp2_with fail
        go_meet
        exact ⟨true, rfl, fun _ => hk, (fun h => by cases h), rfl⟩
      · have hk := Lib.hid (HAF.out (by omega))
        clear HAT HAF
        go_wp2_with fail
        go_meet
        exact ⟨false, rfl, (fun h => by cases h), fun _ => hk.out, rfl⟩
  case rest =>
  obtain ⟨sb, rfl, hst, hsf, rfl⟩ := hcut
  go_upto_if 54 with (fail)
  go_cut [4] (fun x4 wx => x4 = .int .i64 a ∧ wx = wc)
  case first =>
    as_aux_lemma =>
    cases sb with
    | true =>
      have hk := Lib.hid (hst rfl)
      clear hst hsf
      go_wp2
      go_meet
      exact ⟨by rw [hk.out], rfl⟩
    | false =>
      have hk := Lib.hid (hsf rfl)
      clear hst hsf
      go_wp2
      go_meet
      exact ⟨by rw [hk.out], rfl⟩
  case rest =>
  obtain ⟨rfl, rfl⟩ := hcut
  clear hst hsf HAT HAF hatI
  generalize wc = w6 at *
  have hsa := HSA.out
  go_upto_region 7 with fail
  go_cut [18] (fun x18 wx => x18 = .int .i64 Fr ∧ Below w2.heap.size w2 wx)
  case first =>
    as_aux_lemma =>
    have b0 : Below w2.heap.size w2 w6.drew := bel_drew b6
    go_region_held3 (fun wx => wx.cell? ⟨G, 0, none⟩ = some (.int .i64 b) ∧ wx.cell? ⟨G, 1, none⟩ = some (.int .i64 p) ∧ wx.cell? ⟨G, 2, none⟩ = some (.int .i64 s)) (exact KG.out _ (by assumption)) (first
      | (go_at_call 18; (with_reducible refine (H3.out _ (HRA.out _ b0)).mono ?_); rintro e w3 ⟨g3, c3, sp3, rfl, r3', h31, _, h32, h33, b3⟩; have r3 := rd_two r3'; (try replace r4 := r4.below b3); replace b0 := b0.trans (b3.mono b0.size); clear b3 r3'; dsimp only)
      | (go_at_call 19; (with_reducible refine (H6.out _ (HRT.out _ b0)).mono ?_); rintro e w4 ⟨g4, c4, sp4, rfl, r4', h41, _, h42, h43, b4⟩; have r4 := rd_two r4'; (try replace r3 := r3.below b4); replace b0 := b0.trans (b4.mono b0.size); clear b4 r4'; dsimp only)
      | (go_at_call 20; (with_reducible refine (H5.out _ _ _ _ _ r3 r4).mono ?_); rintro e w5 ⟨rfl, b5⟩; replace b0 := b0.trans (b5.mono b0.size); clear b5 r3 r4; dsimp only))
    all_goals
      go_wp2_with fail
      go_meet
      exact ⟨rfl, b0⟩
  case rest =>
  obtain ⟨rfl, b7⟩ := hcut
  generalize wc = w7 at *
  clear H5 H6 hsa b6
  go_upto_region 8 with fail
  go_cut [75] (fun x wx => ∃ sb, x = .bool sb ∧ (sb = true → Fr = X) ∧ (sb = false → Fr = -1) ∧ wx = w7)
  case first =>
    as_aux_lemma =>
    have han := HAN.out
    rcases HX.out with h1 | ⟨x, h1, h2⟩
    · subst h1
      have hk := Lib.hid (HFV.out.trans (if_neg (by omega)))
      clear HX HFV HWV HLV
      go_wp2_with fail
      go_meet
      exact ⟨false, rfl, (fun h => by cases h), fun _ => hk.out, rfl⟩
    · subst h2
      by_cases hxa : x < a
      · have hxi : (x : Int) < (a : Int) := by omega
        have hk := Lib.hid (HFV.out.trans (if_pos (by omega)))
        clear HX HFV HWV HLV
        go_wp2_with fail
        go_meet
        exact ⟨true, rfl, fun _ => hk.out, (fun h => by cases h), rfl⟩
      · have hxi : ¬ (x : Int) < (a : Int) := by omega
        have hk := Lib.hid (HFV.out.trans (if_neg (by omega)))
        clear HX HFV HWV HLV
        go_wp2_with fail
        go_meet
        exact ⟨false, rfl, (fun h => by cases h), fun _ => hk.out, rfl⟩
  case rest =>
  obtain ⟨sb, rfl, hst, hsf, rfl⟩ := hcut
  clear HFV
  go_upto_if 75 with (fail)
  go_cut [] (fun wx => wx = wc)
  case first =>
    as_aux_lemma =>
    cases sb with
    | true =>
      obtain rfl := hst rfl
      clear hst hsf
      go_wp2
      go_meet
      rfl
    | false =>
      obtain rfl := hsf rfl
      clear hst hsf
      go_wp2
      go_meet
      rfl
  case rest =>
  obtain rfl := hcut
  clear hst hsf
  generalize wc = w7 at *
  have k0 := (KG.out _ b7).1
  go_upto_region 13 with fail
  go_cut [88] (fun x86 wx => ∃ sb, x86 = .bool sb ∧ (sb = true → K = 0) ∧ (sb = false → K = blk) ∧ wx = w7)
  case first =>
    as_aux_lemma =>
    by_cases hk1 : blk < 0
    · have hk := HKT.out (.inl hk1)
      clear HKT HKF
      go_wp2_with fail
      go_meet
      exact ⟨true, rfl, fun _ => hk, (fun h => by cases h), rfl⟩
    · by_cases hk2 : b ≤ blk
      · have hk := HKT.out (.inr hk2)
        go_wp2_with fail
        go_meet
        exact ⟨true, rfl, fun _ => hk, (fun h => by cases h), rfl⟩
      · have hk := HKF.out (by omega)
        go_wp2_with fail
        go_meet
        exact ⟨false, rfl, (fun h => by cases h), fun _ => hk, rfl⟩
  case rest =>
  obtain ⟨sb, rfl, hst, hsf, rfl⟩ := hcut
  go_upto_if 88 with (fail)
  go_cut [5] (fun x5 wx => x5 = .int .i64 K ∧ wx = wc)
  case first =>
    as_aux_lemma =>
    cases sb with
    | true =>
      have hk := hst rfl
      clear hst hsf
      go_wp2
      go_meet
      exact ⟨by rw [hk], rfl⟩
    | false =>
      have hk := hsf rfl
      clear hst hsf
      go_wp2
      go_meet
      exact ⟨by rw [hk], rfl⟩
  case rest =>
  obtain ⟨rfl, rfl⟩ := hcut
  clear hst hsf k0 HKT HKF hblI
  generalize wc = w8 at *
  have HB8 := Lib.hid (b2.trans (b7.mono b2.size))
  replace KG := Lib.hid (show ∀ wx, Below w8.heap.size w8 wx → wx.cell? ⟨G, 0, none⟩ = some (.int .i64 b) ∧ wx.cell? ⟨G, 1, none⟩ = some (.int .i64 p) ∧ wx.cell? ⟨G, 2, none⟩ = some (.int .i64 s) from fun wx hb => KG.out wx (b7.trans (hb.mono b7.size)))
  replace HRA := Lib.hid (show ∀ wx, Below w8.heap.size w8 wx → Rd wx A (bls m) from fun wx hb => HRA.out wx (b7.trans (hb.mono b7.size)))
  replace HRB := Lib.hid (show ∀ wx, Below w8.heap.size w8 wx → Rd wx A2 (cmdV l) from fun wx hb => HRB.out wx (b7.trans (hb.mono b7.size)))
  replace HRC := Lib.hid (show ∀ wx, Below w8.heap.size w8 wx → Rd wx A3 (cmdV l3) from fun wx hb => HRC.out wx (b7.trans (hb.mono b7.size)))
  replace HRT := Lib.hid (show ∀ wx, Below w8.heap.size w8 wx → Rd wx A2 (cmdV LT) from fun wx hb => HRT.out wx (b7.trans (hb.mono b7.size)))
  replace HRX := Lib.hid (show ∀ wx, Below w8.heap.size w8 wx → Rd wx AD (cmdV LD) from fun wx hb => HRX.out wx (b7.trans (hb.mono b7.size)))
  clear b2 b7
  have hsa := HSA.out
  have hsd := HSD.out
  have han := HAN.out
  go_upto_region 15 with fail
  go_cut [20] (fun x20 wx => ∃ A' c', x20 = .slice A' (n2 + 1) c' ∧ Rd wx A' (cmdV (LT ++ ([⟨3, K, 0, 44⟩] ++ LD))) ∧ Below w8.heap.size w8 wx)
  case first =>
    as_aux_lemma =>
    have oE1 := (own_empty w8 33 4).drew
    have oE2 : Owx ((w8.alloc (.cells #[.int .i64 3, .int .i64 K, .int .i64 0, .int .i64 44] 33)).alloc (.cells #[] 33)).drew 33 4 (.slice (some ⟨w8.heap.size + 1, 0, none⟩) 0 0) 0 [] [] := by have h := (own_empty (w8.alloc (.cells #[.int .i64 3, .int .i64 K, .int .i64 0, .int .i64 44] 33)) 33 4).drew; rw [World.size_alloc] at h; exact h
    have oE3 := ((own_empty w8 33 4).alloc (.cells #[.int .i64 3, .int .i64 K, .int .i64 0, .int .i64 44] 33)).drew
    have zb3 : Blk ((w8.alloc (.cells #[] 33)).alloc (.cells #[.int .i64 3, .int .i64 K, .int .i64 0, .int .i64 44] 33)) (w8.heap.size + 1) 33 (cmdC ⟨3, K, 0, 44⟩) := by have h := Blk.new (w8.alloc (.cells #[] 33)) 33 (cmdC ⟨3, K, 0, 44⟩); rw [World.size_alloc] at h; exact h
    have zb2 : Blk ((w8.alloc (.cells #[.int .i64 3, .int .i64 K, .int .i64 0, .int .i64 44] 33)).alloc (.cells #[] 33)) w8.heap.size 33 (cmdC ⟨3, K, 0, 44⟩) := (Blk.new w8 33 (cmdC ⟨3, K, 0, 44⟩)).alloc _
    have qE1 : Below w8.heap.size w8 (w8.alloc (.cells #[] 33)) := (Below.refl _ w8).alloc (Nat.le_refl _) _
    have qE2 : Below w8.heap.size w8 ((w8.alloc (.cells #[.int .i64 3, .int .i64 K, .int .i64 0, .int .i64 44] 33)).alloc (.cells #[] 33)) := ((Below.refl _ w8).alloc (Nat.le_refl _) _).alloc (by simp) _
    have qE3 : Below w8.heap.size w8 ((w8.alloc (.cells #[] 33)).alloc (.cells #[.int .i64 3, .int .i64 K, .int .i64 0, .int .i64 44] 33)) := ((Below.refl _ w8).alloc (Nat.le_refl _) _).alloc (by simp) _
    go_region_held3 (fun wx => True) (exact trivial) (first
        | ((with_reducible refine at_world ((w8.alloc (.cells #[] 33)).drew) ?_); refine step_appx _ (by rfl) (.tmp 89) (.tmp 92) 25 (by rfl) 33 _ 4 32 Try.underlying25 info33 rfl (by decide) (by rfl) oE1 (by rfl) (by rw [cmdV_len, HLT.out]; exact Nat.mul_comm _ _) (HRT.out _ (bel_drew qE1)) (one_cmdV LT) (by unfold maxLen; omega) (by omega) ?_; intro v1 w5 sp1 o1 y1; obtain ⟨q5, f1⟩ := lay_frm0 (bel_drew qE1) y1 (fun k hk => by cases hk; exact Nat.le_refl _); simp only [Nat.zero_add, List.nil_append] at o1; clear y1; dsimp only)
        | ((with_reducible refine at_world (((w8.alloc (.cells #[_, _, _, _] 33)).alloc (.cells #[] 33)).drew) ?_); refine step_appx _ (by rfl) (.tmp 89) (.tmp 92) 25 (by rfl) 33 _ 4 32 Try.underlying25 info33 rfl (by decide) (by rfl) oE2 (by rfl) (by rw [cmdV_len, HLT.out]; exact Nat.mul_comm _ _) (HRT.out _ (bel_drew qE2)) (one_cmdV LT) (by unfold maxLen; omega) (by omega) ?_; intro v1 w5 sp1 o1 y1; obtain ⟨q5, f1⟩ := lay_frm0 (bel_drew qE2) y1 (fun k hk => by cases hk; exact Nat.le_succ _); have lit : Rd w5 (some ⟨w8.heap.size, 0, none⟩) (cmdC ⟨3, K, 0, 44⟩) := Rd.of_blk (sp := []) (by rw [List.append_nil]; exact zb2.drew.frm y1.frm (fun hk => by have h3 : w8.heap.size + 1 = w8.heap.size := Option.some.inj hk; omega)); simp only [Nat.zero_add, List.nil_append] at o1; clear y1; dsimp only)
        | ((with_reducible refine at_world (((w8.alloc (.cells #[] 33)).alloc (.cells #[_, _, _, _] 33)).drew) ?_); refine step_appx _ (by rfl) (.tmp 89) (.tmp 92) 25 (by rfl) 33 _ 4 32 Try.underlying25 info33 rfl (by decide) (by rfl) oE3 (by rfl) (by rw [cmdV_len, HLT.out]; exact Nat.mul_comm _ _) (HRT.out _ (bel_drew qE3)) (one_cmdV LT) (by unfold maxLen; omega) (by omega) ?_; intro v1 w5 sp1 o1 y1; obtain ⟨q5, f1⟩ := lay_frm0 (bel_drew qE3) y1 (fun k hk => by cases hk; exact Nat.le_refl _); have lit : Rd w5 (some ⟨w8.heap.size + 1, 0, none⟩) (cmdC ⟨3, K, 0, 44⟩) := Rd.of_blk (sp := []) (by rw [List.append_nil]; exact zb3.drew.frm y1.frm (fun hk => by have h3 : w8.heap.size = w8.heap.size + 1 := Option.some.inj hk; omega)); simp only [Nat.zero_add, List.nil_append] at o1; clear y1; dsimp only)
        | ((with_reducible refine at_world (w5.alloc _) ?_); refine step_appx _ (by rfl) (.tmp 93) (.tmp 96) 25 (by rfl) 33 _ 4 32 Try.underlying25 info33 rfl (by decide) (by rfl) (o1.alloc _) (by rfl) (by rfl) (rd_new w5 33 (cmdC ⟨3, K, 0, 44⟩)) (one_cmdC ⟨3, K, 0, 44⟩) (by unfold maxLen; omega) (by omega) ?_; intro v2 w6 sp2 o2 y2; obtain ⟨q6, f2⟩ := lay_frm0 (q5.alloc q5.size _) y2 f1; clear y2; dsimp only)
        | ((with_reducible refine at_world ((w5.alloc _).drew) ?_); refine step_appx _ (by rfl) (.tmp 93) (.tmp 96) 25 (by rfl) 33 _ 4 32 Try.underlying25 info33 rfl (by decide) (by rfl) (o1.alloc _).drew (by rfl) (by rfl) (rd_new w5 33 (cmdC ⟨3, K, 0, 44⟩)).drew (one_cmdC ⟨3, K, 0, 44⟩) (by unfold maxLen; omega) (by omega) ?_; intro v2 w6 sp2 o2 y2; obtain ⟨q6, f2⟩ := lay_frm0 (bel_drew (q5.alloc q5.size _)) y2 f1; clear y2; dsimp only)
        | ((with_reducible refine at_world (w5) ?_); refine step_appx _ (by rfl) (.tmp 93) (.tmp 96) 25 (by rfl) 33 _ 4 32 Try.underlying25 info33 rfl (by decide) (by rfl) o1 (by rfl) (by rfl) lit (one_cmdC ⟨3, K, 0, 44⟩) (by unfold maxLen; omega) (by omega) ?_; intro v2 w6 sp2 o2 y2; obtain ⟨q6, f2⟩ := lay_frm0 q5 y2 f1; clear y2; dsimp only)
        | ((with_reducible refine at_world (w5.drew) ?_); refine step_appx _ (by rfl) (.tmp 93) (.tmp 96) 25 (by rfl) 33 _ 4 32 Try.underlying25 info33 rfl (by decide) (by rfl) o1.drew (by rfl) (by rfl) lit.drew (one_cmdC ⟨3, K, 0, 44⟩) (by unfold maxLen; omega) (by omega) ?_; intro v2 w6 sp2 o2 y2; obtain ⟨q6, f2⟩ := lay_frm0 (bel_drew q5) y2 f1; clear y2; dsimp only)
        | ((with_reducible refine at_world (w6) ?_); refine step_appx _ (by rfl) (.tmp 97) (.tmp 100) 25 (by rfl) 33 _ 4 32 Try.underlying25 info33 rfl (by decide) (by rfl) o2 (by rfl) (by rw [cmdV_len, HLD.out]; exact Nat.mul_comm _ _) (HRX.out _ q6) (one_cmdV LD) (by unfold maxLen; omega) (by omega) ?_; intro v3 w7 sp3 o3 y3; obtain ⟨q7, f3⟩ := lay_frm0 q6 y3 f2; clear y3; dsimp only)
        | ((with_reducible refine at_world (w6.drew) ?_); refine step_appx _ (by rfl) (.tmp 97) (.tmp 100) 25 (by rfl) 33 _ 4 32 Try.underlying25 info33 rfl (by decide) (by rfl) o2.drew (by rfl) (by rw [cmdV_len, HLD.out]; exact Nat.mul_comm _ _) (HRX.out _ (bel_drew q6)) (one_cmdV LD) (by unfold maxLen; omega) (by omega) ?_; intro v3 w7 sp3 o3 y3; obtain ⟨q7, f3⟩ := lay_frm0 (bel_drew q6) y3 f2; clear y3; dsimp only))
    all_goals
      go_wp2_with fail
      go_meet
      obtain ⟨A', c', e, _, r⟩ := o3.rd
      exact ⟨A', c', by rw [e, show a + 1 + (n2 - a) = n2 + 1 by omega], by rw [cmdV_app, cmdV_app, ← List.append_assoc]; exact r, q7⟩
  case rest =>
  obtain ⟨A', c', rfl, hrw, b9⟩ := hcut
  generalize wc = w9 at *
  replace HB8 := Lib.hid (HB8.out.trans (b9.mono HB8.out.size))
  replace KG := Lib.hid (show ∀ wx, Below w9.heap.size w9 wx → wx.cell? ⟨G, 0, none⟩ = some (.int .i64 b) ∧ wx.cell? ⟨G, 1, none⟩ = some (.int .i64 p) ∧ wx.cell? ⟨G, 2, none⟩ = some (.int .i64 s) from fun wx hb => KG.out wx (b9.trans (hb.mono b9.size)))
  replace HRA := Lib.hid (show ∀ wx, Below w9.heap.size w9 wx → Rd wx A (bls m) from fun wx hb => HRA.out wx (b9.trans (hb.mono b9.size)))
  replace HRB := Lib.hid (show ∀ wx, Below w9.heap.size w9 wx → Rd wx A2 (cmdV l) from fun wx hb => HRB.out wx (b9.trans (hb.mono b9.size)))
  replace HRC := Lib.hid (show ∀ wx, Below w9.heap.size w9 wx → Rd wx A3 (cmdV l3) from fun wx hb => HRC.out wx (b9.trans (hb.mono b9.size)))
  have HRW := Lib.hid (show ∀ wx, Below w9.heap.size w9 wx → Rd wx A' (cmdV (LT ++ ([⟨3, K, 0, 44⟩] ++ LD))) from fun wx hb => hrw.below hb)
  have HW4 := Lib.hid (H8.out A' c')
  clear hsa hsd hrw b9 HRT HRX HLT HLD HSA HSD H8
  go_upto_region 16 with fail
  go_cut [21] (fun x21 wx => x21 = .int .i64 Wi ∧ Below w9.heap.size w9 wx)
  case first =>
    as_aux_lemma =>
    have b0 : Below w9.heap.size w9 w9.drew := bel_drew (Below.refl _ _)
    go_region_held3 (fun wx => wx.cell? ⟨G, 0, none⟩ = some (.int .i64 b) ∧ wx.cell? ⟨G, 1, none⟩ = some (.int .i64 p) ∧ wx.cell? ⟨G, 2, none⟩ = some (.int .i64 s)) (exact KG.out _ (by assumption)) (first
      | (go_at_call 18; (with_reducible refine (H3.out _ (HRA.out _ b0)).mono ?_); rintro e w3 ⟨g3, c3, sp3, rfl, r3', h31, _, h32, h33, b3⟩; have r3 := rd_two r3'; (try replace r4 := r4.below b3); replace b0 := b0.trans (b3.mono b0.size); clear b3 r3'; dsimp only)
      | (go_at_call 19; (with_reducible refine (HW4.out _ (HRW.out _ b0)).mono ?_); rintro e w4 ⟨g4, c4, sp4, rfl, r4', h41, _, h42, h43, b4⟩; have r4 := rd_two r4'; (try replace r3 := r3.below b4); replace b0 := b0.trans (b4.mono b0.size); clear b4 r4'; dsimp only)
      | (go_at_call 20; (with_reducible refine (H7.out _ _ _ _ _ r3 r4).mono ?_); rintro e w5 ⟨rfl, b5⟩; replace b0 := b0.trans (b5.mono b0.size); clear b5 r3 r4; dsimp only))
    all_goals
      go_wp2_with fail
      go_meet
      exact ⟨rfl, b0⟩
  case rest =>
  obtain ⟨rfl, b10⟩ := hcut
  generalize wc = w10 at *
  clear H7 HW4 HRW
  go_upto_region 17 with fail
  go_cut [142] (fun x wx => x = .bool false ∧ wx = w10)
  case first =>
    as_aux_lemma =>
    rcases HX.out with h1 | ⟨x, h1, h2⟩
    · subst h1
      obtain rfl : Wi = -1 := HWV.out.trans (if_pos (by omega))
      have ha0 : ¬ (a : Int) ≤ -1 := by omega
      clear HX HWV HLV
      go_wp2_with fail
      go_meet
      exact ⟨rfl, rfl⟩
    · subst h2
      have hx0 : (0 : Int) ≤ (x : Int) := by omega
      have hx1 : ¬ (x : Int) < 0 := by omega
      by_cases hxa : x < a
      · have hxi : (x : Int) < (a : Int) := by omega
        have hxj : ¬ (a : Int) ≤ (x : Int) := by omega
        obtain rfl : Wi = (x : Int) := HWV.out.trans (if_pos (by omega))
        clear HX HWV HLV
        go_wp2_with fail
        go_meet
        exact ⟨rfl, rfl⟩
      · have hxi : ¬ (x : Int) < (a : Int) := by omega
        have hxj : (a : Int) ≤ (x : Int) := by omega
        obtain rfl : Wi = (x : Int) + 1 := HWV.out.trans (if_neg (by omega))
        clear HX HWV HLV
        go_wp2_with fail
        go_meet
        exact ⟨rfl, rfl⟩
  case rest =>
  obtain ⟨rfl, rfl⟩ := hcut
  generalize wc = w10 at *
  clear HWV
  go_upto_region 20 with (at_builtin; first
    | (refine wpList_appx _ rfl (.tmp 143) (.tmp 144) 25 rfl 33 _ 4 32 Try.underlying25 info33 rfl (by decide) rfl (own_empty w10 33 4) rfl (by rw [cmdV_len, HLL.out]; exact Nat.mul_comm _ _) (HRB.out _ (b10.alloc b10.size _)) (one_cmdV l) (by unfold maxLen; omega) (by omega) ?_
       intro v1 w5 sp1 o1 y1
       obtain ⟨q5, f1⟩ := lay_frm0 (b10.alloc b10.size _) y1 (fun k hk => by cases hk; exact b10.size)
       simp only [Nat.zero_add, List.nil_append] at o1
       have O1 := Lib.hid o1
       have Q5 := Lib.hid q5
       have F1 := Lib.hid f1
       clear o1 q5 f1 y1)
    | (refine wpList_appx _ rfl (.tmp 145) (.tmp 146) 25 rfl 33 _ 4 32 Try.underlying25 info33 rfl (by decide) rfl O1.out rfl (by rw [cmdV_len, HL3.out]; exact Nat.mul_comm _ _) (HRC.out _ Q5.out) (one_cmdV l3) (by unfold maxLen; omega) (by omega) ?_
       intro v2 w11 sp2 o2 y2
       obtain ⟨q6, f2⟩ := lay_frm0 Q5.out y2 F1.out
       obtain ⟨A4, c4, rfl, hr4⟩ := owx_slice o2
       have Q6 := Lib.hid q6
       have R4 := Lib.hid hr4
       clear o2 q6 f2 y2 hr4))
  replace KG := Lib.hid (show ∀ wx, Below w11.heap.size w11 wx → wx.cell? ⟨G, 0, none⟩ = some (.int .i64 b) ∧ wx.cell? ⟨G, 1, none⟩ = some (.int .i64 p) ∧ wx.cell? ⟨G, 2, none⟩ = some (.int .i64 s) from fun wx hb => KG.out wx (Q6.out.trans (hb.mono Q6.out.size)))
  replace HRA := Lib.hid (show ∀ wx, Below w11.heap.size w11 wx → Rd wx A (bls m) from fun wx hb => HRA.out wx (Q6.out.trans (hb.mono Q6.out.size)))
  have HRL := Lib.hid (show ∀ wx, Below w11.heap.size w11 wx → Rd wx A4 (cmdV (l ++ l3)) from fun wx hb => by rw [cmdV_app]; exact R4.out.below hb)
  have HL4 := Lib.hid (H10.out A4 c4)
  clear HRB HRC HLL HL3 R4 H10 b10
  go_cut [21] (fun x21 wx => x21 = .int .i64 Lo ∧ Below w11.heap.size w11 wx)
  case first =>
    as_aux_lemma =>
    have b0 : Below w11.heap.size w11 w11.drew := bel_drew (Below.refl _ _)
    go_region_held3 (fun wx => wx.cell? ⟨G, 0, none⟩ = some (.int .i64 b) ∧ wx.cell? ⟨G, 1, none⟩ = some (.int .i64 p) ∧ wx.cell? ⟨G, 2, none⟩ = some (.int .i64 s)) (exact KG.out _ (by assumption)) (first
      | (go_at_call 18; (with_reducible refine (H3.out _ (HRA.out _ b0)).mono ?_); rintro e w3 ⟨g3, c3, sp3, rfl, r3', h31, _, h32, h33, b3⟩; have r3 := rd_two r3'; (try replace r4 := r4.below b3); replace b0 := b0.trans (b3.mono b0.size); clear b3 r3'; dsimp only)
      | (go_at_call 19; (with_reducible refine (HL4.out _ (HRL.out _ b0)).mono ?_); rintro e w4 ⟨g4, c4, sp4, rfl, r4', h41, _, h42, h43, b4⟩; have r4 := rd_two r4'; (try replace r3 := r3.below b4); replace b0 := b0.trans (b4.mono b0.size); clear b4 r4'; dsimp only)
      | (go_at_call 20; (with_reducible refine (H9.out _ _ _ _ _ r3 r4).mono ?_); rintro e w5 ⟨rfl, b5⟩; replace b0 := b0.trans (b5.mono b0.size); clear b5 r3 r4; dsimp only))
    all_goals
      go_wp2_with fail
      go_meet
      exact ⟨rfl, b0⟩
  case rest =>
  obtain ⟨rfl, b12⟩ := hcut
  generalize wc = w12 at *
  clear H9
  rcases HX.out with h1 | ⟨x, h1, h2⟩
  · subst h1
    rcases HLV.out.1 (by omega) with h3 | h3
    · subst h3
      clear HX HLV
      go_wp2
      go_ret
      exact ⟨rfl, HB8.out.trans ((Q6.out.trans (b12.mono Q6.out.size)).mono HB8.out.size)⟩
    · have h4 : ¬ Lo = -1 := by omega
      clear HX HLV
      go_wp2
      go_ret
      exact ⟨rfl, HB8.out.trans ((Q6.out.trans (b12.mono Q6.out.size)).mono HB8.out.size)⟩
  · subst h2
    have hx0 : (0 : Int) ≤ (x : Int) := by omega
    have hx1 : ¬ (x : Int) < 0 := by omega
    obtain rfl := HLV.out.2 hx0
    clear HX HLV
    go_wp2
    go_ret
    exact ⟨rfl, HB8.out.trans ((Q6.out.trans (b12.mono Q6.out.size)).mono HB8.out.size)⟩
end Go.Proofs.Ytagfcndpblekkaa
