/- The walk of the law JudgeLess: a judge that can be. -/
import Derived.Test.YtagfcndpblekkaaJl0
import Derived.Test.YtagfcndpblekkaaJlh
namespace Go.Proofs.Ytagfcndpblekkaa
open Go.RowKit Go.Maps
set_option linter.unusedVariables false
set_option linter.unusedSimpArgs false
set_option maxRecDepth 100000 in
set_option maxHeartbeats 12800000 in
theorem less_yes (w : World) (b p s : Int) (A : Option Addr) (n c : Nat) (m : List Bool) (hml : m.length = n) (hr : Rd w A (bls m)) (hm : n ≤ 140737488351232) (clean : Bool) (A2 : Option Addr) (n2 c2 : Nat) (l : List Cmd) (hll : l.length = n2) (hr2 : Rd w A2 (cmdV l)) (hI : CmdsI l) (hm2 : n2 ≤ 4398046510976) (A3 : Option Addr) (n3 c3 : Nat) (hcap : n2 ≤ c2 ∧ c2 ≤ maxLen) (ob : List Bool) (hol : ob.length = n3) (hr3 : Rd w A3 (bls ob)) (blk at_ : Int) (hblI : -9223372036854775808 ≤ blk ∧ blk ≤ 9223372036854775807) (hatI : -9223372036854775808 ≤ at_ ∧ at_ ≤ 9223372036854775807) (h0 : newE b p s n = 0) :
    Calls Try.prog 7 #[.agg #[.int .i64 b, .int .i64 p, .int .i64 s], .slice A n c, .bool clean, .slice A2 n2 c2, .slice A3 n3 c3, .int .i64 blk, .int .i64 at_] w fun e w' => e = .returned (.bool true) ∧ Below w.heap.size w w' := by
  obtain ⟨hz1, hnb⟩ := newE_zero h0
  obtain ⟨w1, hw1⟩ : ∃ x, x = w.alloc (.cells #[.int .i64 b, .int .i64 p, .int .i64 s] 23) := ⟨_, rfl⟩
  have b1 : Below w.heap.size w w1 := by rw [hw1]; exact (Below.refl _ w).alloc (Nat.le_refl _) _
  have kg : Blk w1 w.heap.size 23 [.int .i64 b, .int .i64 p, .int .i64 s] := by rw [hw1]; exact Blk.new w _ [.int .i64 b, .int .i64 p, .int .i64 s]
  obtain ⟨G, hG⟩ : ∃ G, G = w.heap.size := ⟨_, rfl⟩
  rw [← hG] at kg
  have hC1 := fun (A' : Option Addr) (c' : Nat) (A2' : Option Addr) (c2' : Nat) (wx : World) (h1 : Rd wx A' (bls m)) (h2 : Rd wx A2' (cmdV l)) => Check_x b p s A' n c' m clean A2' n2 c2' l wx hml h1 hll h2 hI (by omega)
  have hC2 := fun (A' : Option Addr) (c' : Nat) (A2' : Option Addr) (c2' : Nat) (wx : World) (h1 : Rd wx A' (bls m)) (h2 : Rd wx A2' (cmdV l)) => rCheck_x b p s A' n c' m clean A2' n2 c2' l wx hml h1 hll h2 hI (by omega)
  have hM := fun wx h => marks_any A n c m wx hml h hm
  have hT := fun wx h => trace_any A2 n2 c2 l wx hll h (by omega)
  rw [show ckX b p s n m clean l = ckR b p m clean l by unfold ckX; rw [if_pos h0], h0] at hC1 hC2
  have hCk := fun (L : List Cmd) (nL : Nat) (A' : Option Addr) (c' : Nat) (A2' : Option Addr) (c2' : Nat) (wx : World) (h1 : Rd wx A' (bls m)) (h2 : Rd wx A2' (cmdV L)) (hL : L.length = nL) (hLI : CmdsI L) (hLn : nL ≤ 4398046511104) (hK : ckR b p m clean L = -1) => Check_x b p s A' n c' m clean A2' nL c2' L wx hml h1 hL h2 hLI hLn
  have hck := fun (L : List Cmd) (hK : ckR b p m clean L = -1) => (show ckX b p s n m clean L = -1 by unfold ckX; rw [if_pos h0]; exact hK)
  obtain ⟨X, hX⟩ : ∃ X, X = ckR b p m clean l := ⟨_, rfl⟩
  obtain ⟨n5, hn5, hXc, hk5⟩ : ∃ n5, n5 ≤ n2 ∧ ((X = -1 ∧ n5 = n2) ∨ X = (n5 : Nat)) ∧ ckR b p m clean (l.take n5) = -1 := by
    rcases ck_cases (B := b) (pg := p) (m := m) (clean := clean) l with ⟨h1, _⟩ | ⟨k, h1, h2, _⟩
    · exact ⟨n2, Nat.le_refl _, .inl ⟨hX.trans h1, rfl⟩, by rw [List.take_of_length_le (by omega)]; exact h1⟩
    · refine ⟨k, by omega, .inr (hX.trans h2), ?_⟩
      rw [ck_front _ _ (by omega), if_neg (by omega)]
  rw [← hX] at hC1 hC2
  have hl5 : (l.take n5).length = n5 := by rw [List.length_take]; omega
  have hI5 := cmdsI_take hI n5
  have hr5 := rd_takeC hr2 n5
  have hsl := sl_toC A2 n2 c2 n5 (by omega) hcap.2
  have hc5 : n5 ≤ c2 := by omega
  generalize l.take n5 = l5 at hl5 hI5 hr5 hk5
  obtain ⟨K, hK⟩ : ∃ K, K = if blk < 0 ∨ b ≤ blk then 0 else blk := ⟨_, rfl⟩
  have hKt : (blk < 0 ∨ b ≤ blk) → K = 0 := fun h => by rw [hK, if_pos h]
  have hKf : ¬ (blk < 0 ∨ b ≤ blk) → K = blk := fun h => by rw [hK, if_neg h]
  have hKr : 0 ≤ K ∧ K < b := by rw [hK]; split <;> omega
  clear hK
  have hgI : I64 b ∧ I64 K := by unfold I64; omega
  have H1 := Lib.hid hC1
  have H2 := Lib.hid hC2
  have H3 := Lib.hid hM
  have H4 := Lib.hid hT
  have H5 := Lib.hid hCk
  have HCK := Lib.hid hck
  have HX := Lib.hid hXc
  have HK5 := Lib.hid hk5
  have HL5 := Lib.hid hl5
  have HI5 := Lib.hid hI5
  have HSL := Lib.hid hsl
  have HC5 := Lib.hid hc5
  have HN5 := Lib.hid hn5
  have HM2 := Lib.hid hm2
  have HKT := Lib.hid hKt
  have HKF := Lib.hid hKf
  have HKR := Lib.hid hKr
  have HOL := Lib.hid hol
  have HKI := Lib.hid hgI
  have HCP := Lib.hid hcap
  clear hC1 hC2 hM hT hml hll hI h0 hCk hck hX hXc hk5 hl5 hI5 hsl hc5 hn5 hm2 hKt hKf hKr hol hz1 hnb hgI hcap
  have hmk := mk_bools
  go_enter Try.func7, Try.ntmps7
  go_wp2_with fail
  rw [← hw1, ← hG]
  have hs1 : w1.heap.size = G + 1 := by rw [hw1, hG]; simp
  clear hw1 hmk
  obtain ⟨w1', hw1'⟩ : ∃ x, x = (w1.alloc (.cells (bls [false, false, false, false, false, false, false, false]).toArray 4)).alloc (.cells #[.int .i64 1, .int .i64 0, .int .i64 0, .int .i64 0, .int .i64 1, .int .i64 0, .int .i64 0, .int .i64 0] 33) := ⟨_, rfl⟩
  rw [← hw1']
  clear hG
  have b1' : Below w1.heap.size w1 w1' := by rw [hw1']; exact ((Below.refl _ w1).alloc (Nat.le_refl _) _).alloc (by simp) _
  have r1' : Rd w1' (some ⟨G + 1, 0, none⟩) (bls (List.replicate 8 false)) := by
    rw [hw1', ← hs1]; exact (rd_new w1 4 (bls (List.replicate 8 false))).alloc _
  have r2' : Rd w1' (some ⟨G + 1 + 1, 0, none⟩) (cmdV twiceL) := by
    rw [hw1', ← hs1]
    have h := rd_new (w1.alloc (.cells (bls (List.replicate 8 false)).toArray 4)) 33 (cmdV twiceL)
    rw [show (w1.alloc (.cells (bls (List.replicate 8 false)).toArray 4)).heap.size = w1.heap.size + 1 by simp] at h
    exact h
  clear hs1
  clear hw1'
  with_reducible refine (twice_x (some ⟨G + 1, 0, none⟩) (some ⟨G + 1 + 1, 0, none⟩) w1' r1' r2').mono ?_
  rintro e w2 ⟨rfl, b2⟩
  replace b2 := b1'.trans (b2.mono b1'.size)
  replace kg := kg.bel b2
  replace b2 := b1.trans (b2.mono b1.size)
  clear b1 b1' r1' r2'
  have HR5 := Lib.hid (rd_keep (hr5.below b2))
  have HR3 := Lib.hid (rd_keep (hr3.below b2))
  have HRA := Lib.hid (rd_keep (hr.below b2))
  have HRB := Lib.hid (rd_keep (hr2.below b2))
  have KG := Lib.hid (show ∀ wx, Below w2.heap.size w2 wx → wx.cell? ⟨G, 0, none⟩ = some (.int .i64 b) ∧ wx.cell? ⟨G, 1, none⟩ = some (.int .i64 p) ∧ wx.cell? ⟨G, 2, none⟩ = some (.int .i64 s) from fun wx hb => ⟨(kg.bel hb).cell 0, (kg.bel hb).cell 1, (kg.bel hb).cell 2⟩)
  go_upto_region 2 with fail
  go_cut [17, 18] (fun x17 x18 wx => x17 = .int .i64 X ∧ x18 = .int .i64 0 ∧ Below w2.heap.size w2 wx)
  case first =>
    as_aux_lemma =>
    have b0 : Below w2.heap.size w2 w2.drew := bel_drew (Below.refl _ _)
    go_region_held3 (fun wx => wx.cell? ⟨G, 0, none⟩ = some (.int .i64 b) ∧ wx.cell? ⟨G, 1, none⟩ = some (.int .i64 p) ∧ wx.cell? ⟨G, 2, none⟩ = some (.int .i64 s)) (exact KG.out _ (by assumption)) (first
      | (go_at_call 18; (with_reducible refine (H3.out _ (HRA.out _ b0)).mono ?_); rintro e w3 ⟨g3, c3, sp3, rfl, r3', h31, _, h32, h33, b3⟩; have r3 := rd_two r3'; (try replace r4 := r4.below b3); replace b0 := b0.trans (b3.mono b0.size); clear b3 r3'; dsimp only)
      | (go_at_call 19; (with_reducible refine (H4.out _ (HRB.out _ b0)).mono ?_); rintro e w4 ⟨g4, c4, sp4, rfl, r4', h41, _, h42, h43, b4⟩; have r4 := rd_two r4'; (try replace r3 := r3.below b4); replace b0 := b0.trans (b4.mono b0.size); clear b4 r4'; dsimp only)
      | (go_at_call 20; (with_reducible refine (H1.out _ _ _ _ _ r3 r4).mono ?_); rintro e w5 ⟨rfl, b5⟩; replace b0 := b0.trans (b5.mono b0.size); clear b5 r3 r4; dsimp only))
    all_goals
      go_wp2_with fail
      go_meet
      exact ⟨rfl, rfl, b0⟩
  case rest =>
  obtain ⟨rfl, rfl, b6⟩ := hcut
  generalize wc = w6 at *
  obtain ⟨k0, k1, k2⟩ := KG.out _ b6
  go_wp2_with fail
  with_reducible refine (H2.out A c A2 c2 w6 (HRA.out _ b6) (HRB.out _ b6)).mono ?_
  rintro e w7 ⟨rfl, b7⟩
  replace b7 := b6.trans (b7.mono b6.size)
  clear b6 k0 k1 k2
  clear H1 H2 HRB
  go_upto_if 75 with (fail)
  go_cut [3] (fun x3 wx => x3 = .slice A2 n5 c2 ∧ Below w2.heap.size w2 wx)
  case first =>
    as_aux_lemma =>
    have hsl := HSL.out
    rcases HX.out with ⟨h1, h2⟩ | h1
    · subst h1
      subst h2
      go_wp2
      go_meet
      exact ⟨rfl, b7⟩
    · subst h1
      have h5 : (0 : Int) ≤ (n5 : Int) := by omega
      go_wp2
      go_meet
      exact ⟨rfl, b7⟩
  case rest =>
  obtain ⟨rfl, b8⟩ := hcut
  generalize wc = w8 at *
  clear HX HSL b7
  obtain ⟨k0, k1, k2⟩ := KG.out _ b8
  clear k1 k2
  go_upto_region 10 with fail
  go_cut [86] (fun x86 wx => ∃ sb, x86 = .bool sb ∧ (sb = true → K = 0) ∧ (sb = false → K = blk) ∧ wx = w8)
  case first =>
    as_aux_lemma =>
    by_cases hk1 : blk < 0
    · have hk := HKT.out (.inl hk1)
      clear HKT HKF
      go_wp2_with fail
      go_meet
      exact ⟨true, rfl, fun _ => hk, (fun h => by cases h), rfl⟩
    · by_cases hk2 : b ≤ blk
      · have hk := HKT.out (.inr hk2)
        go_wp2_with fail
        go_meet
        exact ⟨true, rfl, fun _ => hk, (fun h => by cases h), rfl⟩
      · have hk := HKF.out (by omega)
        go_wp2_with fail
        go_meet
        exact ⟨false, rfl, (fun h => by cases h), fun _ => hk, rfl⟩
  case rest =>
  obtain ⟨sb, rfl, hst, hsf, rfl⟩ := hcut
  go_upto_if 86 with (fail)
  go_cut [5] (fun x5 wx => x5 = .int .i64 K ∧ wx = wc)
  case first =>
    as_aux_lemma =>
    cases sb with
    | true =>
      have hk := hst rfl
      clear hst hsf
      go_wp2
      go_meet
      exact ⟨by rw [hk], rfl⟩
    | false =>
      have hk := hsf rfl
      clear hst hsf
      go_wp2
      go_meet
      exact ⟨by rw [hk], rfl⟩
  case rest =>
  obtain ⟨rfl, rfl⟩ := hcut
  clear hst hsf k0 HKT HKF hblI
  generalize wc = w9 at *
  have HLB := Lib.hid (b2.trans (b8.mono b2.size))
  have KG9 := Lib.hid (show ∀ wx, Below w9.heap.size w9 wx → wx.cell? ⟨G, 0, none⟩ = some (.int .i64 b) ∧ wx.cell? ⟨G, 1, none⟩ = some (.int .i64 p) ∧ wx.cell? ⟨G, 2, none⟩ = some (.int .i64 s) from fun wx hb => KG.out wx (b8.trans (hb.mono b8.size)))
  have HRA9 := Lib.hid (show ∀ wx, Below w9.heap.size w9 wx → Rd wx A (bls m) from fun wx hb => HRA.out wx (b8.trans (hb.mono b8.size)))
  have HR59 := Lib.hid (show ∀ wx, Below w9.heap.size w9 wx → Rd wx A2 (cmdV l5) from fun wx hb => HR5.out wx (b8.trans (hb.mono b8.size)))
  have HR39 := Lib.hid (show ∀ wx, Below w9.heap.size w9 wx → Rd wx A3 (bls ob) from fun wx hb => HR3.out wx (b8.trans (hb.mono b8.size)))
  clear KG HRA HR5 HR3 b2 b8 H4
  go_wp2
  go_loopw [21, 22, 23] (fun vl la ii wr => ∃ (k : Nat) (z : Int) (ls : List Cmd) (sp : List Value), k ≤ n5 ∧ ii = .int .i64 k ∧ la = .int .i64 z ∧ -1 ≤ z ∧ z < k ∧ LastP l5 K z k ∧ Less (l5.take k) ls ∧ Owx wr 33 4 vl ls.length (cmdV ls) sp ∧ (∀ q, vl.ownBlock = some q → w9.heap.size ≤ q) ∧ Below w9.heap.size w9 wr) (fun _ _ ii _ => n5 - (intJ ii))
  case atStart => exact ⟨0, -1, [], [], by omega, rfl, rfl, by omega, by omega, (fun j h1 h2 => by omega), .nil, .inl ⟨rfl, rfl, rfl, rfl⟩, (fun q h => by cases h), Below.refl _ _⟩
  case round =>
    obtain ⟨k, z, ls, sp, hk, rfl, rfl, hz1, hz2, hla, hle, ho, hfr, bb⟩ := hrel
    by_cases hlt : k < n5
    · as_aux_lemma =>
      have hlti : (k : Int) < (n5 : Int) := by omega
      have hkm : n5 ≤ 4398046510976 := by have := HN5.out; have := HM2.out; omega
      obtain ⟨ad, rfl, d0, d1, d2, d3⟩ := rd_cmd (HR59.out _ bb) k (by have := HL5.out; omega)
      have hci := HI5.out k (by have := HL5.out; omega)
      have htk := take_snoc l5 k (by have := HL5.out; omega)
      have hlp : ∀ zz : Int, (zz = z ∧ (l5.getD k ⟨0, 0, 0, 0⟩).b ≠ K) ∨ zz = k → LastP l5 K zz (k + 1) := fun zz hh j h1 h2 => by
        rcases hh with ⟨e1, e2⟩ | e1
        · by_cases e : j = k
          · rw [e]; exact e2
          · exact hla j (by omega) (by omega)
        · omega
      have hrd : ∀ wx, Below w9.heap.size w9 wx → wx.cell? ⟨(ad.add (k * 4)).block, (ad.add (k * 4)).off + 1, none⟩ = some (.int .i64 (l5.getD k ⟨0, 0, 0, 0⟩).b) := fun wx hb => by
        obtain ⟨ad', e, _, h1, _⟩ := rd_cmd (HR59.out _ hb) k (by have := HL5.out; omega)
        cases e
        exact h1
      generalize l5.getD k ⟨0, 0, 0, 0⟩ = cc at *
      obtain ⟨ck, cb, cp, cs⟩ := cc
      simp only at d0 d1 d2 d3 hrd
      have HRD := Lib.hid hrd
      clear hrd
      have hlen := less_len hle
      rw [List.length_take] at hlen
      have HLP := Lib.hid hlp
      have HLE := Lib.hid hle
      have HTK := Lib.hid htk
      have HOW := Lib.hid ho
      have HFR := Lib.hid hfr
      clear hlp hle htk ho hla hci
      go_upto_region 17 with fail
      go_cut [111] (fun x111 wx => ∃ sb, x111 = .bool sb ∧ (sb = false → ck ≠ 2) ∧ wx = wr)
      case first =>
        as_aux_lemma =>
        by_cases hk2 : ck = 2
        · subst hk2
          go_wp2_with fail
          go_meet
          exact ⟨true, rfl, (fun h => by cases h), rfl⟩
        · by_cases hk3 : k < n3
          · obtain ⟨ad1, rfl, hc1⟩ := (HR39.out _ bb).at_ (k := k) (bls_at ob k (by have := HOL.out; omega))
            have hk3i : (k : Int) < (n3 : Int) := by omega
            generalize ob.getD k false = x at hc1
            go_wp2_with fail
            go_meet
            exact ⟨_, rfl, fun _ => hk2, rfl⟩
          · have hk3i : ¬ (k : Int) < (n3 : Int) := by omega
            go_wp2_with fail
            go_meet
            exact ⟨true, rfl, (fun h => by cases h), rfl⟩
      case rest =>
      obtain ⟨sb, rfl, hsf, rfl⟩ := hcut
      go_upto_if 111 with (fail)
      go_cut [21] (fun v2 wx => ∃ ls2 sp2, Less (l5.take (k + 1)) ls2 ∧ Owx wx 33 4 v2 ls2.length (cmdV ls2) sp2 ∧ (∀ q, v2.ownBlock = some q → w9.heap.size ≤ q) ∧ Below w9.heap.size w9 wx)
      case first =>
        as_aux_lemma =>
        cases sb with
        | false =>
          have hk2 := hsf rfl
          clear hsf
          go_wp2
          go_meet
          exact ⟨ls, sp, by rw [HTK.out]; exact .drop ⟨ck, cb, cp, cs⟩ hk2 HLE.out, HOW.out, HFR.out, bb⟩
        | true =>
          clear hsf
          go_wp2_with (at_builtin; first
            | (refine wpList_appx _ rfl (.tmp 112) (.tmp 117) 25 rfl 33 _ 4 32 Try.underlying25 info33 rfl (by decide) rfl (HOW.out.alloc _) rfl (by rfl) (rd_new _ _ (cmdC ⟨ck, cb, cp, cs⟩)) (one_cmdC ⟨ck, cb, cp, cs⟩) (by unfold maxLen; have := HN5.out; have := HM2.out; omega) (by have := HN5.out; have := HM2.out; omega) ?_
               intro v2 w2 sp2 ho2 hy2
               have hby := lay_frm0 (bb.alloc bb.size _) hy2 HFR.out
               have HO2 := Lib.hid ho2
               have HBY := Lib.hid hby
               clear ho2 hy2 hby))
          go_meet
          exact ⟨ls ++ [⟨ck, cb, cp, cs⟩], sp2, by rw [HTK.out]; exact .keep ⟨ck, cb, cp, cs⟩ HLE.out, by rw [cmdV_snoc, List.length_append]; exact HO2.out, HBY.out.2, HBY.out.1⟩
      case rest =>
      clear bb HOW HFR HLE d0 d1 d2 d3
      obtain ⟨ls2, sp2, hle, ho, hfr, bb⟩ := hcut
      generalize wc = wr at *
      have HLE := Lib.hid hle
      have HOW := Lib.hid ho
      have HFR := Lib.hid hfr
      clear hle ho hfr
      have d1 := HRD.out _ bb
      by_cases hb : cb = K
      · subst hb
        have hl2 := HLP.out k (.inr rfl)
        have HL2 := Lib.hid hl2
        clear hl2 HLP
        go_wp2
        go_roundw
        case rel => exact ⟨k + 1, k, ls2, sp2, by omega, by go_num, rfl, by omega, by omega, HL2.out, HLE.out, HOW.out, HFR.out, bb⟩
        case measure => simp [intJ]; omega
      · have hl2 := HLP.out z (.inl ⟨rfl, hb⟩)
        have HL2 := Lib.hid hl2
        clear hl2 HLP
        go_wp2
        go_roundw
        case rel => exact ⟨k + 1, z, ls2, sp2, by omega, by go_num, rfl, by omega, by omega, HL2.out, HLE.out, HOW.out, HFR.out, bb⟩
        case measure => simp [intJ]; omega
    · obtain rfl : k = n5 := by omega
      
      have hle5 : Less l5 ls := by
        have h := hle
        rw [List.take_of_length_le (by have := HL5.out; omega)] at h
        exact h
      have hlsn : ls.length ≤ k := by have := less_len hle5; have := HL5.out; omega
      obtain ⟨V, cV, rfl, hrv⟩ := owx_slice ho
      have HLS := Lib.hid (ck_less hle5 HK5.out)
      have HSI := Lib.hid (less_I hle5 HI5.out)
      have HLA := Lib.hid hla
      clear hle hle5 ho hfr hla
      have hrz : Below w.heap.size w wr := HLB.out.trans (bb.mono HLB.out.size)
      have HLB := Lib.hid hrz
      have KG := Lib.hid (show ∀ wx, Below wr.heap.size wr wx → wx.cell? ⟨G, 0, none⟩ = some (.int .i64 b) ∧ wx.cell? ⟨G, 1, none⟩ = some (.int .i64 p) ∧ wx.cell? ⟨G, 2, none⟩ = some (.int .i64 s) from fun wx hb => KG9.out wx (bb.trans (hb.mono bb.size)))
      have HRA := Lib.hid (show ∀ wx, Below wr.heap.size wr wx → Rd wx A (bls m) from fun wx hb => HRA9.out wx (bb.trans (hb.mono bb.size)))
      have HR5 := Lib.hid (show ∀ wx, Below wr.heap.size wr wx → Rd wx A2 (cmdV l5) from fun wx hb => HR59.out wx (bb.trans (hb.mono bb.size)))
      have HRV := Lib.hid (show ∀ wx, Below wr.heap.size wr wx → Rd wx V (cmdV ls) from fun wx hb => hrv.below hb)
      clear KG9 HRA9 HR59 HR39 hrz bb hrv
      go_upto_region 21 with fail
      go_cut [135] (fun x wx => ∃ sb, x = .bool sb ∧ (sb = true → ¬ (z < at_ ∧ at_ ≤ k)) ∧ (sb = false → z < at_ ∧ at_ ≤ k) ∧ wx = wr)
      case first =>
        as_aux_lemma =>
        by_cases hk1 : at_ ≤ z
        · go_wp2_with fail
          go_meet
          exact ⟨true, rfl, (fun _ => by omega), (fun h => by cases h), rfl⟩
        · by_cases hk2 : (k : Int) < at_
          · go_wp2_with fail
            go_meet
            exact ⟨true, rfl, (fun _ => by omega), (fun h => by cases h), rfl⟩
          · go_wp2_with fail
            go_meet
            exact ⟨false, rfl, (fun h => by cases h), (fun _ => by omega), rfl⟩
      case rest =>
      obtain ⟨sb, rfl, hst, hsf, rfl⟩ := hcut
      go_upto_if 135 with (fail)
      go_cut [6] (fun x6 wx => ∃ a : Nat, x6 = .int .i64 a ∧ z < a ∧ a ≤ k ∧ wx = wc)
      case first =>
        as_aux_lemma =>
        cases sb with
        | true =>
          clear hst hsf
          go_wp2
          go_meet
          exact ⟨k, rfl, by omega, by omega, rfl⟩
        | false =>
          have hk2 := hsf rfl
          clear hst hsf
          go_wp2
          go_meet
          exact ⟨at_.toNat, by rw [Int.toNat_of_nonneg (by omega)], by omega, by omega, rfl⟩
      case rest =>
      obtain ⟨a, rfl, ha1, ha2, rfl⟩ := hcut
      clear hst hsf hatI
      generalize wc = w8 at *
      have hwi := ck_marked l5 a (by have := HL5.out; omega) K HKR.out (fun j h1 h2 => HLA.out j (by omega) (by have := HL5.out; omega)) HK5.out
      have hwI : CmdsI (l5.take a ++ ([⟨3, K, 0, 0⟩] ++ l5.drop a)) := cmdsI_app (cmdsI_take HI5.out a) (cmdsI_app (fun j hj => by
        obtain rfl : j = 0 := by simpa using hj
        have := HKI.out
        unfold I64 at this
        unfold CmdI I64
        simp
        omega) (cmdsI_drop HI5.out a))
      have hwl : (l5.take a ++ ([(⟨3, K, 0, 0⟩ : Cmd)] ++ l5.drop a)).length = k + 1 := by
        have := HL5.out
        simp
        omega
      obtain ⟨AD, cD, hsd, hrd⟩ := sl_fromC A2 k c2 a ha2 HC5.out HCP.out.2
      have hsa := sl_toC A2 k c2 a (by have := HC5.out; omega) HCP.out.2
      have hlT : (l5.take a).length = a := by rw [List.length_take]; have := HL5.out; omega
      have hlD : (l5.drop a).length = k - a := by rw [List.length_drop]; have := HL5.out; omega
      have hk63 : k + 1 ≤ 4398046510977 := by have := HN5.out; have := HM2.out; omega
      have HRT := Lib.hid (show ∀ wx, Below w8.heap.size w8 wx → Rd wx A2 (cmdV (l5.take a)) from fun wx hb => rd_takeC (HR5.out _ hb) a)
      have HRX := Lib.hid (show ∀ wx, Below w8.heap.size w8 wx → Rd wx AD (cmdV (l5.drop a)) from fun wx hb => hrd _ l5 HL5.out (HR5.out _ hb))
      have HWI := Lib.hid hwI
      have HWK := Lib.hid hwi
      have HWL := Lib.hid hwl
      have HLT := Lib.hid hlT
      have HLD := Lib.hid hlD
      clear hlT hlD hwI hwi hwl HK5 HI5 HLA hrd HR5 HKR HKI HL5 HCP HC5 HN5 HM2 HOL
      generalize l5.take a = LT at *
      generalize l5.drop a = LD at *
      go_upto_region 23 with fail
      go_cut [24] (fun x24 wx => ∃ A' c', x24 = .slice A' (k + 1) c' ∧ Rd wx A' (cmdV (LT ++ ([⟨3, K, 0, 0⟩] ++ LD))) ∧ Below w8.heap.size w8 wx)
      case first =>
        as_aux_lemma =>
        have oE1 := (own_empty w8 33 4).drew
        have oE2 : Owx ((w8.alloc (.cells #[.int .i64 3, .int .i64 K, .int .i64 0, .int .i64 0] 33)).alloc (.cells #[] 33)).drew 33 4 (.slice (some ⟨w8.heap.size + 1, 0, none⟩) 0 0) 0 [] [] := by have h := (own_empty (w8.alloc (.cells #[.int .i64 3, .int .i64 K, .int .i64 0, .int .i64 0] 33)) 33 4).drew; rw [World.size_alloc] at h; exact h
        have oE3 := ((own_empty w8 33 4).alloc (.cells #[.int .i64 3, .int .i64 K, .int .i64 0, .int .i64 0] 33)).drew
        have zb3 : Blk ((w8.alloc (.cells #[] 33)).alloc (.cells #[.int .i64 3, .int .i64 K, .int .i64 0, .int .i64 0] 33)) (w8.heap.size + 1) 33 (cmdC ⟨3, K, 0, 0⟩) := by have h := Blk.new (w8.alloc (.cells #[] 33)) 33 (cmdC ⟨3, K, 0, 0⟩); rw [World.size_alloc] at h; exact h
        have zb2 : Blk ((w8.alloc (.cells #[.int .i64 3, .int .i64 K, .int .i64 0, .int .i64 0] 33)).alloc (.cells #[] 33)) w8.heap.size 33 (cmdC ⟨3, K, 0, 0⟩) := (Blk.new w8 33 (cmdC ⟨3, K, 0, 0⟩)).alloc _
        have qE1 : Below w8.heap.size w8 (w8.alloc (.cells #[] 33)) := (Below.refl _ w8).alloc (Nat.le_refl _) _
        have qE2 : Below w8.heap.size w8 ((w8.alloc (.cells #[.int .i64 3, .int .i64 K, .int .i64 0, .int .i64 0] 33)).alloc (.cells #[] 33)) := ((Below.refl _ w8).alloc (Nat.le_refl _) _).alloc (by simp) _
        have qE3 : Below w8.heap.size w8 ((w8.alloc (.cells #[] 33)).alloc (.cells #[.int .i64 3, .int .i64 K, .int .i64 0, .int .i64 0] 33)) := ((Below.refl _ w8).alloc (Nat.le_refl _) _).alloc (by simp) _
        go_region_held3 (fun wx => True) (exact trivial) (first
            | ((with_reducible refine at_world ((w8.alloc (.cells #[] 33)).drew) ?_); refine step_appx _ (by rfl) (.tmp 138) (.tmp 141) 25 (by rfl) 33 _ 4 32 Try.underlying25 info33 rfl (by decide) (by rfl) oE1 (by rfl) (by rw [cmdV_len, HLT.out]; exact Nat.mul_comm _ _) (HRT.out _ (bel_drew qE1)) (one_cmdV LT) (by unfold maxLen; omega) (by omega) ?_; intro v1 w5 sp1 o1 y1; obtain ⟨q5, f1⟩ := lay_frm0 (bel_drew qE1) y1 (fun k hk => by cases hk; exact Nat.le_refl _); simp only [Nat.zero_add, List.nil_append] at o1; clear y1; dsimp only)
            | ((with_reducible refine at_world (((w8.alloc (.cells #[_, _, _, _] 33)).alloc (.cells #[] 33)).drew) ?_); refine step_appx _ (by rfl) (.tmp 138) (.tmp 141) 25 (by rfl) 33 _ 4 32 Try.underlying25 info33 rfl (by decide) (by rfl) oE2 (by rfl) (by rw [cmdV_len, HLT.out]; exact Nat.mul_comm _ _) (HRT.out _ (bel_drew qE2)) (one_cmdV LT) (by unfold maxLen; omega) (by omega) ?_; intro v1 w5 sp1 o1 y1; obtain ⟨q5, f1⟩ := lay_frm0 (bel_drew qE2) y1 (fun k hk => by cases hk; exact Nat.le_succ _); have lit : Rd w5 (some ⟨w8.heap.size, 0, none⟩) (cmdC ⟨3, K, 0, 0⟩) := Rd.of_blk (sp := []) (by rw [List.append_nil]; exact zb2.drew.frm y1.frm (fun hk => by have h3 : w8.heap.size + 1 = w8.heap.size := Option.some.inj hk; omega)); simp only [Nat.zero_add, List.nil_append] at o1; clear y1; dsimp only)
            | ((with_reducible refine at_world (((w8.alloc (.cells #[] 33)).alloc (.cells #[_, _, _, _] 33)).drew) ?_); refine step_appx _ (by rfl) (.tmp 138) (.tmp 141) 25 (by rfl) 33 _ 4 32 Try.underlying25 info33 rfl (by decide) (by rfl) oE3 (by rfl) (by rw [cmdV_len, HLT.out]; exact Nat.mul_comm _ _) (HRT.out _ (bel_drew qE3)) (one_cmdV LT) (by unfold maxLen; omega) (by omega) ?_; intro v1 w5 sp1 o1 y1; obtain ⟨q5, f1⟩ := lay_frm0 (bel_drew qE3) y1 (fun k hk => by cases hk; exact Nat.le_refl _); have lit : Rd w5 (some ⟨w8.heap.size + 1, 0, none⟩) (cmdC ⟨3, K, 0, 0⟩) := Rd.of_blk (sp := []) (by rw [List.append_nil]; exact zb3.drew.frm y1.frm (fun hk => by have h3 : w8.heap.size = w8.heap.size + 1 := Option.some.inj hk; omega)); simp only [Nat.zero_add, List.nil_append] at o1; clear y1; dsimp only)
            | ((with_reducible refine at_world (w5.alloc _) ?_); refine step_appx _ (by rfl) (.tmp 142) (.tmp 145) 25 (by rfl) 33 _ 4 32 Try.underlying25 info33 rfl (by decide) (by rfl) (o1.alloc _) (by rfl) (by rfl) (rd_new w5 33 (cmdC ⟨3, K, 0, 0⟩)) (one_cmdC ⟨3, K, 0, 0⟩) (by unfold maxLen; omega) (by omega) ?_; intro v2 w6 sp2 o2 y2; obtain ⟨q6, f2⟩ := lay_frm0 (q5.alloc q5.size _) y2 f1; clear y2; dsimp only)
            | ((with_reducible refine at_world ((w5.alloc _).drew) ?_); refine step_appx _ (by rfl) (.tmp 142) (.tmp 145) 25 (by rfl) 33 _ 4 32 Try.underlying25 info33 rfl (by decide) (by rfl) (o1.alloc _).drew (by rfl) (by rfl) (rd_new w5 33 (cmdC ⟨3, K, 0, 0⟩)).drew (one_cmdC ⟨3, K, 0, 0⟩) (by unfold maxLen; omega) (by omega) ?_; intro v2 w6 sp2 o2 y2; obtain ⟨q6, f2⟩ := lay_frm0 (bel_drew (q5.alloc q5.size _)) y2 f1; clear y2; dsimp only)
            | ((with_reducible refine at_world (w5) ?_); refine step_appx _ (by rfl) (.tmp 142) (.tmp 145) 25 (by rfl) 33 _ 4 32 Try.underlying25 info33 rfl (by decide) (by rfl) o1 (by rfl) (by rfl) lit (one_cmdC ⟨3, K, 0, 0⟩) (by unfold maxLen; omega) (by omega) ?_; intro v2 w6 sp2 o2 y2; obtain ⟨q6, f2⟩ := lay_frm0 q5 y2 f1; clear y2; dsimp only)
            | ((with_reducible refine at_world (w5.drew) ?_); refine step_appx _ (by rfl) (.tmp 142) (.tmp 145) 25 (by rfl) 33 _ 4 32 Try.underlying25 info33 rfl (by decide) (by rfl) o1.drew (by rfl) (by rfl) lit.drew (one_cmdC ⟨3, K, 0, 0⟩) (by unfold maxLen; omega) (by omega) ?_; intro v2 w6 sp2 o2 y2; obtain ⟨q6, f2⟩ := lay_frm0 (bel_drew q5) y2 f1; clear y2; dsimp only)
            | ((with_reducible refine at_world (w6) ?_); refine step_appx _ (by rfl) (.tmp 146) (.tmp 149) 25 (by rfl) 33 _ 4 32 Try.underlying25 info33 rfl (by decide) (by rfl) o2 (by rfl) (by rw [cmdV_len, HLD.out]; exact Nat.mul_comm _ _) (HRX.out _ q6) (one_cmdV LD) (by unfold maxLen; omega) (by omega) ?_; intro v3 w7 sp3 o3 y3; obtain ⟨q7, f3⟩ := lay_frm0 q6 y3 f2; clear y3; dsimp only)
            | ((with_reducible refine at_world (w6.drew) ?_); refine step_appx _ (by rfl) (.tmp 146) (.tmp 149) 25 (by rfl) 33 _ 4 32 Try.underlying25 info33 rfl (by decide) (by rfl) o2.drew (by rfl) (by rw [cmdV_len, HLD.out]; exact Nat.mul_comm _ _) (HRX.out _ (bel_drew q6)) (one_cmdV LD) (by unfold maxLen; omega) (by omega) ?_; intro v3 w7 sp3 o3 y3; obtain ⟨q7, f3⟩ := lay_frm0 (bel_drew q6) y3 f2; clear y3; dsimp only))
        all_goals
          go_wp2_with fail
          go_meet
          obtain ⟨A', c', e, _, r⟩ := o3.rd
          exact ⟨A', c', by rw [e, show a + 1 + (k - a) = k + 1 by omega], by rw [cmdV_app, cmdV_app, ← List.append_assoc]; exact r, q7⟩
      case rest =>
      obtain ⟨A', c', rfl, hrw, b9⟩ := hcut
      generalize wc = w9 at *
      generalize LT ++ ([(⟨3, K, 0, 0⟩ : Cmd)] ++ LD) = WL at *
      have hL1 := fun (A' : Option Addr) (c' : Nat) (A2' : Option Addr) (c2' : Nat) (wx : World) (h1 : Rd wx A' (bls m)) (h2 : Rd wx A2' (cmdV ls)) => H5.out ls ls.length A' c' A2' c2' wx h1 h2 rfl HSI.out (by omega) HLS.out
      have hW1 := fun (A' : Option Addr) (c' : Nat) (A2' : Option Addr) (c2' : Nat) (wx : World) (h1 : Rd wx A' (bls m)) (h2 : Rd wx A2' (cmdV WL)) => H5.out WL (k + 1) A' c' A2' c2' wx h1 h2 HWL.out HWI.out (by omega) HWK.out
      rw [HCK.out ls HLS.out] at hL1
      rw [HCK.out WL HWK.out] at hW1
      generalize newE b p s n = E at hL1 hW1
      have hLT := fun wx h => trace_any V ls.length cV ls wx rfl h (by omega)
      have hWT := fun wx h => trace_any A' (k + 1) c' WL wx HWL.out h (by omega)
      have HL1 := Lib.hid hL1
      have HW1 := Lib.hid hW1
      have HL4 := Lib.hid hLT
      have HW4 := Lib.hid hWT
      have HLB2 := Lib.hid (HLB.out.trans (b9.mono HLB.out.size))
      have KG9 := Lib.hid (show ∀ wx, Below w9.heap.size w9 wx → wx.cell? ⟨G, 0, none⟩ = some (.int .i64 b) ∧ wx.cell? ⟨G, 1, none⟩ = some (.int .i64 p) ∧ wx.cell? ⟨G, 2, none⟩ = some (.int .i64 s) from fun wx hb => KG.out wx (b9.trans (hb.mono b9.size)))
      have HRA9 := Lib.hid (show ∀ wx, Below w9.heap.size w9 wx → Rd wx A (bls m) from fun wx hb => HRA.out wx (b9.trans (hb.mono b9.size)))
      have HRV9 := Lib.hid (show ∀ wx, Below w9.heap.size w9 wx → Rd wx V (cmdV ls) from fun wx hb => HRV.out wx (b9.trans (hb.mono b9.size)))
      have HRW9 := Lib.hid (show ∀ wx, Below w9.heap.size w9 wx → Rd wx A' (cmdV WL) from fun wx hb => hrw.below hb)
      clear KG HRA HRV hrw b9 HLB hL1 hW1 hLT hWT H5 HCK HWI HWK HWL HSI HLS HRT HRX HLT HLD hsd hsa
      have KG := KG9
      have HRA := HRA9
      clear KG9 HRA9
      go_upto_region 24 with fail
      go_cut [25, 26] (fun x25 x26 wx => x25 = .int .i64 (-1) ∧ x26 = .int .i64 E ∧ Below w9.heap.size w9 wx)
      case first =>
        as_aux_lemma =>
        have b0 : Below w9.heap.size w9 w9.drew := bel_drew (Below.refl _ _)
        go_region_held3 (fun wx => wx.cell? ⟨G, 0, none⟩ = some (.int .i64 b) ∧ wx.cell? ⟨G, 1, none⟩ = some (.int .i64 p) ∧ wx.cell? ⟨G, 2, none⟩ = some (.int .i64 s)) (exact KG.out _ (by assumption)) (first
          | (go_at_call 18; (with_reducible refine (H3.out _ (HRA.out _ b0)).mono ?_); rintro e w3 ⟨g3, c3, sp3, rfl, r3', h31, _, h32, h33, b3⟩; have r3 := rd_two r3'; (try replace r4 := r4.below b3); replace b0 := b0.trans (b3.mono b0.size); clear b3 r3'; dsimp only)
          | (go_at_call 19; (with_reducible refine (HL4.out _ (HRV9.out _ b0)).mono ?_); rintro e w4 ⟨g4, c4, sp4, rfl, r4', h41, _, h42, h43, b4⟩; have r4 := rd_two r4'; (try replace r3 := r3.below b4); replace b0 := b0.trans (b4.mono b0.size); clear b4 r4'; dsimp only)
          | (go_at_call 20; (with_reducible refine (HL1.out _ _ _ _ _ r3 r4).mono ?_); rintro e w5 ⟨rfl, b5⟩; replace b0 := b0.trans (b5.mono b0.size); clear b5 r3 r4; dsimp only))
        all_goals
          go_wp2_with fail
          go_meet
          exact ⟨rfl, rfl, b0⟩
      case rest =>
      obtain ⟨rfl, rfl, b10⟩ := hcut
      generalize wc = w10 at *
      go_upto_region 25 with fail
      go_cut [27, 28] (fun x27 x28 wx => x27 = .int .i64 (-1) ∧ x28 = .int .i64 E ∧ Below w9.heap.size w9 wx)
      case first =>
        as_aux_lemma =>
        have b0 : Below w9.heap.size w9 w10.drew := bel_drew b10
        go_region_held3 (fun wx => wx.cell? ⟨G, 0, none⟩ = some (.int .i64 b) ∧ wx.cell? ⟨G, 1, none⟩ = some (.int .i64 p) ∧ wx.cell? ⟨G, 2, none⟩ = some (.int .i64 s)) (exact KG.out _ (by assumption)) (first
          | (go_at_call 18; (with_reducible refine (H3.out _ (HRA.out _ b0)).mono ?_); rintro e w3 ⟨g3, c3, sp3, rfl, r3', h31, _, h32, h33, b3⟩; have r3 := rd_two r3'; (try replace r4 := r4.below b3); replace b0 := b0.trans (b3.mono b0.size); clear b3 r3'; dsimp only)
          | (go_at_call 19; (with_reducible refine (HW4.out _ (HRW9.out _ b0)).mono ?_); rintro e w4 ⟨g4, c4, sp4, rfl, r4', h41, _, h42, h43, b4⟩; have r4 := rd_two r4'; (try replace r3 := r3.below b4); replace b0 := b0.trans (b4.mono b0.size); clear b4 r4'; dsimp only)
          | (go_at_call 20; (with_reducible refine (HW1.out _ _ _ _ _ r3 r4).mono ?_); rintro e w5 ⟨rfl, b5⟩; replace b0 := b0.trans (b5.mono b0.size); clear b5 r3 r4; dsimp only))
        all_goals
          go_wp2_with fail
          go_meet
          exact ⟨rfl, rfl, b0⟩
      case rest =>
      obtain ⟨rfl, rfl, b11⟩ := hcut
      generalize wc = w11 at *
      go_wp2
      go_ret
      exact ⟨rfl, HLB2.out.trans (b11.mono HLB2.out.size)⟩
end Go.Proofs.Ytagfcndpblekkaa
