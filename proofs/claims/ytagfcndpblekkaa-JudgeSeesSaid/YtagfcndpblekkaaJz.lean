/- The walk of the document's Keeps. -/
import Derived.Test.YtagfcndpblekkaaJy
import Derived.Deep.RegionHeld3
namespace Go.Proofs.Ytagfcndpblekkaa
open Go.RowKit Go.Maps
set_option linter.unusedVariables false
set_option linter.unusedSimpArgs false
theorem kr_false {B pg : Int} {m : List Bool} {clean : Bool} {seen : List Cmd} {c : Cmd} (h : ¬ KpR B pg m clean seen c) : false = kpR B pg m clean seen c := (decide_eq_false h).symm
theorem kr_true {B pg : Int} {m : List Bool} {clean : Bool} {seen : List Cmd} {c : Cmd} (h : KpR B pg m clean seen c) : true = kpR B pg m clean seen c := (decide_eq_true h).symm
set_option maxRecDepth 100000 in
set_option maxHeartbeats 6400000 in
theorem Keeps_any (q : Nat) (b p s : Int) (A : Option Addr) (n ca : Nat) (clean : Bool) (V : Option Addr) (N cN : Nat) (m : List Bool) (seen : List Cmd) (c : Cmd) (w : World) (hst : Blk w q 79 (rfV b p s A n ca clean V N cN)) (hs : Rd w V (cmdV seen)) (hN : seen.length = N) (hok : SeenOk p seen) (hp : p ≤ 256) (hm2 : N ≤ 140737488355328) (hm : Rd w A (bls m)) (hml : m.length = n) (hnb : (n : Int) = b) (hc : CmdI c) :
    Calls Try.prog 37 #[.pointer (some ⟨q, 0, none⟩), .agg #[.int .i64 c.k, .int .i64 c.b, .int .i64 c.p, .int .i64 c.s]] w fun e w' => e = .returned (.bool (kpR b p m clean seen c)) ∧ Below w.heap.size w w' := by
  obtain ⟨w1, hw1⟩ : ∃ x, x = w.alloc (.cells #[.int .i64 c.k, .int .i64 c.b, .int .i64 c.p, .int .i64 c.s] 33) := ⟨_, rfl⟩
  have b1 : Below w.heap.size w w1 := by rw [hw1]; exact (Below.refl _ w).alloc (Nat.le_refl _) _
  have kc : Blk w1 w.heap.size 33 [.int .i64 c.k, .int .i64 c.b, .int .i64 c.p, .int .i64 c.s] := by rw [hw1]; exact Blk.new w _ [.int .i64 c.k, .int .i64 c.b, .int .i64 c.p, .int .i64 c.s]
  have hs1 := hst.frm (ex := fun _ => False) (Frm.of_below b1) id
  obtain ⟨G, hG⟩ : ∃ G, G = w.heap.size := ⟨_, rfl⟩
  rw [← hG] at kc
  have HKC := Lib.hid kc
  have HS1 := Lib.hid hs1
  have kf := @kr_false b p m clean seen c
  have kt := @kr_true b p m clean seen c
  have KF := Lib.hid kf
  have KT := Lib.hid kt
  have hdef : KpR b p m clean seen c ↔ ((1 ≤ c.k ∧ c.k ≤ 3) ∧ (0 ≤ c.b ∧ c.b < b) ∧ (c.s = 0 ∨ c.s = 44 ∨ c.s = 45) ∧ (c.k ≠ 3 → mkR m seen c.b = false) ∧ (c.k = 1 → nxR p clean seen c.b ≤ c.p ∧ c.p < p)) := Iff.rfl
  have HD := Lib.hid hdef
  have hMK := fun (kb : Nat) (wx : World) (hb : Below w.heap.size w wx) (hkb : kb < n) => marked_any q b p s A n ca clean V N cN m seen kb wx (hst.frm (ex := fun _ => False) (Frm.of_below hb) id) (hs.below hb) hN (hm.below hb) hml hkb hm2
  have hNX := fun (wx : World) (hb : Below w.heap.size w wx) => next_any q b p s A n ca clean V N cN seen c.b wx (hst.frm (ex := fun _ => False) (Frm.of_below hb) id) (hs.below hb) hN hok hp hm2
  have HMK := Lib.hid hMK
  have HNX := Lib.hid hNX
  have hcr := fun (wx : World) (hb : Below w.heap.size w wx) => cellsR (hst.frm (ex := fun _ => False) (Frm.of_below hb) id)
  have HCR := Lib.hid hcr
  have HNB := Lib.hid hnb
  generalize kpR b p m clean seen c = KB at *
  clear hst hs hN hok hm2 hm hml hc kf kt hdef hMK hNX hcr hnb
  obtain ⟨c0, c1, c3, c4, c5⟩ := cellsR hs1
  have k0 : w1.cell? ⟨G, 0, none⟩ = some (.int .i64 c.k) := kc.cell 0
  have k1 : w1.cell? ⟨G, 1, none⟩ = some (.int .i64 c.b) := kc.cell 1
  have k2 : w1.cell? ⟨G, 2, none⟩ = some (.int .i64 c.p) := kc.cell 2
  have k3 : w1.cell? ⟨G, 3, none⟩ = some (.int .i64 c.s) := kc.cell 3
  clear kc hs1
  go_enter Try.func37, Try.ntmps37
  go_upto_region 2 with fail
  rw [← hw1, ← hG]
  clear hw1 hG
  go_cut [1, 5, 42] (fun _ _ v wx => ∃ (nq : Nat) (bad : Bool), wx = w1.drewN nq ∧ v = .bool bad ∧ (bad = true ↔ ¬ ((1 ≤ c.k ∧ c.k ≤ 3) ∧ (0 ≤ c.b ∧ c.b < b) ∧ (c.s = 0 ∨ c.s = 44 ∨ c.s = 45))))
  case first =>
    by_cases q1 : c.k < 1
    rotate_left
    by_cases q2 : 3 < c.k
    rotate_left
    by_cases q3 : c.b < 0
    rotate_left
    by_cases q4 : b ≤ c.b
    rotate_left
    by_cases q5 : c.s = 0
    rotate_left
    by_cases q6 : c.s = 44
    rotate_left
    by_cases q7 : c.s = 45
    rotate_left
    have q5b : (c.s == 0) = false := by simpa using q5
    have q6b : (c.s == 44) = false := by simpa using q6
    have q7b : (c.s == 45) = false := by simpa using q7
    all_goals
      (go_quiet (fail)
       go_wp2
       go_meet
       exact ⟨_, _, rfl, rfl, by simp; omega⟩)
  case rest =>
  obtain ⟨nq, bad, hwc, rfl, hbad⟩ := hcut
  have bb : Below w.heap.size w wc := by rw [hwc]; exact bel_drewN b1 nq
  have kc : Blk wc G 33 [.int .i64 c.k, .int .i64 c.b, .int .i64 c.p, .int .i64 c.s] := by rw [hwc]; exact HKC.out.frm (ex := fun _ => False) (Frm.of_below (bel_drewN (Below.refl _ _) nq)) id
  have HBAD := Lib.hid hbad
  clear hwc hbad c0 c1 c3 c4 c5 k0 k1 k2 k3
  generalize wc = w2 at *
  obtain ⟨c0, c1, c3, c4, c5⟩ := HCR.out _ bb
  have k0 : w2.cell? ⟨G, 0, none⟩ = some (.int .i64 c.k) := kc.cell 0
  have k1 : w2.cell? ⟨G, 1, none⟩ = some (.int .i64 c.b) := kc.cell 1
  have k2 : w2.cell? ⟨G, 2, none⟩ = some (.int .i64 c.p) := kc.cell 2
  cases bad with
  | true =>
    go_wp2
    go_ret
    exact ⟨ret_b (KF.out fun q => HBAD.out.1 (by trivial) ⟨(HD.out.1 q).1, (HD.out.1 q).2.1, (HD.out.1 q).2.2.1⟩), bb⟩
  | false =>
    have hgood : (1 ≤ c.k ∧ c.k ≤ 3) ∧ (0 ≤ c.b ∧ c.b < b) ∧ (c.s = 0 ∨ c.s = 44 ∨ c.s = 45) := by
      apply Decidable.byContradiction
      intro hh
      have := HBAD.out.2 hh
      cases this
    have HG := Lib.hid hgood
    obtain ⟨⟨g1, g2⟩, ⟨g3, g4⟩, _⟩ := hgood
    obtain ⟨kb, hkb⟩ : ∃ kb : Nat, c.b = kb := ⟨c.b.toNat, by omega⟩
    have hmc := fun wx hb => HMK.out kb wx hb (by have := HNB.out; omega)
    simp only [← hkb] at hmc
    clear hkb HBAD
    by_cases hk3 : c.k = 3
    · have hyes : KpR b p m clean seen c := HD.out.2 ⟨HG.out.1, HG.out.2.1, HG.out.2.2, fun h => absurd hk3 h, fun h => by omega⟩
      have HY := Lib.hid hyes
      clear hyes g1 g2 g3 g4 hmc
      go_wp2
      go_quiet (fail)
      go_wp2
      go_ret
      exact ⟨ret_b (KT.out HY.out), bel_drewN bb _⟩
    by_cases hmk : mkR m seen c.b = true
    · have hno : ¬ KpR b p m clean seen c := fun h => by have := (HD.out.1 h).2.2.2.1 hk3; rw [hmk] at this; cases this
      have HNO := Lib.hid hno
      rw [hmk] at hmc
      clear hno g1 g2 g3 g4 hmk
      go_wp2_with fail
      with_reducible refine (hmc _ bb).mono ?_
      rintro e w' ⟨rfl, rfl⟩
      clear hmc
      go_wp2
      go_ret
      exact ⟨ret_b (KF.out HNO.out), bb⟩
    have hmf : mkR m seen c.b = false := by cases h : mkR m seen c.b with | true => exact absurd h hmk | false => rfl
    have HMF := Lib.hid hmf
    rw [hmf] at hmc
    clear hmk hmf
    by_cases hk1 : c.k = 1
    · have hls := fun (h : KpR b p m clean seen c) => (HD.out.1 h).2.2.2.2 hk1
      have hyes := fun (h1 : nxR p clean seen c.b ≤ c.p) (h2 : c.p < p) => HD.out.2 ⟨HG.out.1, HG.out.2.1, HG.out.2.2, fun _ => HMF.out, fun _ => ⟨h1, h2⟩⟩
      have HLS := Lib.hid hls
      have HY := Lib.hid hyes
      generalize nxR p clean seen c.b = nv at *
      clear hls hyes g1 g2 g3 g4
      go_wp2_with fail
      with_reducible refine (hmc _ bb).mono ?_
      rintro e w' ⟨rfl, rfl⟩
      clear hmc
      go_upto_region 6 with fail
      have hcm := fun (wx : World) (hb : Below w2.heap.size w2 wx) => (show wx.cell? ⟨G, 0, none⟩ = some (.int .i64 1) ∧ wx.cell? ⟨G, 1, none⟩ = some (.int .i64 c.b) ∧ wx.cell? ⟨G, 2, none⟩ = some (.int .i64 c.p) ∧ wx.cell? ⟨q, 1, none⟩ = some (.int .i64 p) from ⟨(by rw [← hk1]; exact (kc.frm (ex := fun _ => False) (Frm.of_below hb) id).cell 0), (kc.frm (ex := fun _ => False) (Frm.of_below hb) id).cell 1, (kc.frm (ex := fun _ => False) (Frm.of_below hb) id).cell 2, (HCR.out _ (bb.trans (hb.mono bb.size))).2.1⟩)
      have HCM := Lib.hid hcm
      have b0 : Below w2.heap.size w2 w2.drew := bel_drew (Below.refl _ _)
      have HBB := Lib.hid bb
      have hkk := k0
      clear hcm kc c0 c1 c3 c4 c5 bb
      clear k0 k1 k2 hkk
      by_cases hn1 : nv ≤ c.p
      · by_cases hn2 : c.p < p
        · have hd1 : decide (nv ≤ c.p) = true := decide_eq_true hn1
          have hd2 : decide (c.p < p) = true := decide_eq_true hn2
          refine wp_region_held_drew (S := fun wx : World => wx.cell? ⟨G, 0, none⟩ = some (.int .i64 1) ∧ wx.cell? ⟨G, 1, none⟩ = some (.int .i64 c.b) ∧ wx.cell? ⟨G, 2, none⟩ = some (.int .i64 c.p) ∧ wx.cell? ⟨q, 1, none⟩ = some (.int .i64 p)) (by kernel_rfl) (HCM.out _ b0) (fun hHeld => ?_)
          refine wpAnyH_take (i := 0) (oi := _) (v := .pointer (some ⟨G, 0, none⟩)) rfl (by kernel_rfl) (by kernel_rfl) (by kernel_rfl) (fun _ _ _ h => h) (.inl ⟨by rfl, fun wx hSw => ?_⟩) hHeld ?_
          · obtain ⟨s0, s1, s2, s3⟩ := hSw
            first | (go_simp; done) | (go_simp; rfl)
          simp only [List.getElem_toArray, List.getElem_cons_succ, List.getElem_cons_zero, Act.put, List.setIfInBounds_toArray, List.set_cons_zero, List.set_cons_succ]
          refine wpAnyH_take (i := 1) (oi := _) (v := .int .i64 1) rfl (by kernel_rfl) (by kernel_rfl) (by kernel_rfl) (fun _ _ _ h => h) (.inl ⟨by rfl, fun wx hSw => ?_⟩) hHeld ?_
          · obtain ⟨s0, s1, s2, s3⟩ := hSw
            first | (go_simp; done) | (go_simp; rfl)
          simp only [List.getElem_toArray, List.getElem_cons_succ, List.getElem_cons_zero, Act.put, List.setIfInBounds_toArray, List.set_cons_zero, List.set_cons_succ]
          refine wpAnyH_take (i := 2) (oi := _) (v := .bool false) rfl (by kernel_rfl) (by kernel_rfl) (by kernel_rfl) (fun _ _ _ h => h) (.inl ⟨by rfl, fun wx hSw => ?_⟩) hHeld ?_
          · obtain ⟨s0, s1, s2, s3⟩ := hSw
            first | (go_simp; done) | (go_simp; rfl)
          simp only [List.getElem_toArray, List.getElem_cons_succ, List.getElem_cons_zero, Act.put, List.setIfInBounds_toArray, List.set_cons_zero, List.set_cons_succ]
          refine wpAnyH_take (i := 3) (oi := _) (v := .bool false) rfl (by kernel_rfl) (by kernel_rfl) (by kernel_rfl) (fun _ _ _ h => h) (.inl ⟨by rfl, fun wx hSw => ?_⟩) hHeld ?_
          · obtain ⟨s0, s1, s2, s3⟩ := hSw
            first | (go_simp; done) | (go_simp; rfl)
          simp only [List.getElem_toArray, List.getElem_cons_succ, List.getElem_cons_zero, Act.put, List.setIfInBounds_toArray, List.set_cons_zero, List.set_cons_succ]
          refine wpAnyH_take (i := 4) (oi := _) (v := .pointer (some ⟨G, 2, none⟩)) rfl (by kernel_rfl) (by kernel_rfl) (by kernel_rfl) (fun _ _ _ h => h) (.inl ⟨by rfl, fun wx hSw => ?_⟩) hHeld ?_
          · obtain ⟨s0, s1, s2, s3⟩ := hSw
            first | (go_simp; done) | (go_simp; rfl)
          simp only [List.getElem_toArray, List.getElem_cons_succ, List.getElem_cons_zero, Act.put, List.setIfInBounds_toArray, List.set_cons_zero, List.set_cons_succ]
          refine wpAnyH_take (i := 5) (oi := _) (v := .int .i64 c.p) rfl (by kernel_rfl) (by kernel_rfl) (by kernel_rfl) (fun _ _ _ h => h) (.inl ⟨by rfl, fun wx hSw => ?_⟩) hHeld ?_
          · obtain ⟨s0, s1, s2, s3⟩ := hSw
            first | (go_simp; done) | (go_simp; rfl)
          simp only [List.getElem_toArray, List.getElem_cons_succ, List.getElem_cons_zero, Act.put, List.setIfInBounds_toArray, List.set_cons_zero, List.set_cons_succ]
          refine wpAnyH_take (i := 6) (oi := _) (v := .pointer (some ⟨q, 0, none⟩)) rfl (by kernel_rfl) (by kernel_rfl) (by kernel_rfl) (fun _ _ _ h => h) (.inl ⟨by rfl, fun wx hSw => ?_⟩) hHeld ?_
          · obtain ⟨s0, s1, s2, s3⟩ := hSw
            first | (go_simp; done) | (go_simp; rfl)
          simp only [List.getElem_toArray, List.getElem_cons_succ, List.getElem_cons_zero, Act.put, List.setIfInBounds_toArray, List.set_cons_zero, List.set_cons_succ]
          refine wpAnyH_take (i := 7) (oi := _) (v := .pointer (some ⟨G, 1, none⟩)) rfl (by kernel_rfl) (by kernel_rfl) (by kernel_rfl) (fun _ _ _ h => h) (.inl ⟨by rfl, fun wx hSw => ?_⟩) hHeld ?_
          · obtain ⟨s0, s1, s2, s3⟩ := hSw
            first | (go_simp; done) | (go_simp; rfl)
          simp only [List.getElem_toArray, List.getElem_cons_succ, List.getElem_cons_zero, Act.put, List.setIfInBounds_toArray, List.set_cons_zero, List.set_cons_succ]
          refine wpAnyH_take (i := 8) (oi := _) (v := .int .i64 c.b) rfl (by kernel_rfl) (by kernel_rfl) (by kernel_rfl) (fun _ _ _ h => h) (.inl ⟨by rfl, fun wx hSw => ?_⟩) hHeld ?_
          · obtain ⟨s0, s1, s2, s3⟩ := hSw
            first | (go_simp; done) | (go_simp; rfl)
          simp only [List.getElem_toArray, List.getElem_cons_succ, List.getElem_cons_zero, Act.put, List.setIfInBounds_toArray, List.set_cons_zero, List.set_cons_succ]
          refine wpAnyH_ready (rs := [9]) (by kernel_rfl) (by simp) ?_
          refine AllReadyH.cons (o := _) rfl (fun K hK => ?_) (AllReadyH.nil)
          simp only [List.getElem_toArray, List.getElem_cons_succ, List.getElem_cons_zero]
          go_simp
          with_reducible refine (HNX.out _ (HBB.out.trans (b0.mono HBB.out.size))).mono ?_
          rintro e w5 ⟨rfl, hb6⟩
          have b5 := b0.trans (hb6.mono b0.size)
          clear hb6
          dsimp only
          clear hHeld
          refine hK.out _ _ (HCM.out _ b5) (fun hHeld => ?_)
          clear hK K
          try simp only [List.getElem_toArray, List.getElem_cons_succ, List.getElem_cons_zero, Act.put, List.setIfInBounds_toArray, List.set_cons_zero, List.set_cons_succ]
          refine wpAnyH_take (i := 10) (oi := _) (v := .bool true) rfl (by kernel_rfl) (by kernel_rfl) (by kernel_rfl) (fun _ _ _ h => h) (.inl ⟨by rfl, fun wx hSw => ?_⟩) hHeld ?_
          · obtain ⟨s0, s1, s2, s3⟩ := hSw
            first | (go_simp; done) | (go_simp; rfl)
          simp only [List.getElem_toArray, List.getElem_cons_succ, List.getElem_cons_zero, Act.put, List.setIfInBounds_toArray, List.set_cons_zero, List.set_cons_succ]
          refine wpAnyH_take (i := 11) (oi := _) (v := .bool true) rfl (by kernel_rfl) (by kernel_rfl) (by kernel_rfl) (fun _ _ _ h => h) (.inl ⟨by rfl, fun wx hSw => ?_⟩) hHeld ?_
          · obtain ⟨s0, s1, s2, s3⟩ := hSw
            first | (go_simp; done) | (go_simp; rfl)
          simp only [List.getElem_toArray, List.getElem_cons_succ, List.getElem_cons_zero, Act.put, List.setIfInBounds_toArray, List.set_cons_zero, List.set_cons_succ]
          refine wpAnyH_take (i := 12) (oi := _) (v := .pointer (some ⟨G, 2, none⟩)) rfl (by kernel_rfl) (by kernel_rfl) (by kernel_rfl) (fun _ _ _ h => h) (.inl ⟨by rfl, fun wx hSw => ?_⟩) hHeld ?_
          · obtain ⟨s0, s1, s2, s3⟩ := hSw
            first | (go_simp; done) | (go_simp; rfl)
          simp only [List.getElem_toArray, List.getElem_cons_succ, List.getElem_cons_zero, Act.put, List.setIfInBounds_toArray, List.set_cons_zero, List.set_cons_succ]
          refine wpAnyH_take (i := 13) (oi := _) (v := .int .i64 c.p) rfl (by kernel_rfl) (by kernel_rfl) (by kernel_rfl) (fun _ _ _ h => h) (.inl ⟨by rfl, fun wx hSw => ?_⟩) hHeld ?_
          · obtain ⟨s0, s1, s2, s3⟩ := hSw
            first | (go_simp; done) | (go_simp; rfl)
          simp only [List.getElem_toArray, List.getElem_cons_succ, List.getElem_cons_zero, Act.put, List.setIfInBounds_toArray, List.set_cons_zero, List.set_cons_succ]
          refine wpAnyH_take (i := 14) (oi := _) (v := .pointer (some ⟨q, 0, none⟩)) rfl (by kernel_rfl) (by kernel_rfl) (by kernel_rfl) (fun _ _ _ h => h) (.inl ⟨by rfl, fun wx hSw => ?_⟩) hHeld ?_
          · obtain ⟨s0, s1, s2, s3⟩ := hSw
            first | (go_simp; done) | (go_simp; rfl)
          simp only [List.getElem_toArray, List.getElem_cons_succ, List.getElem_cons_zero, Act.put, List.setIfInBounds_toArray, List.set_cons_zero, List.set_cons_succ]
          refine wpAnyH_take (i := 15) (oi := _) (v := .pointer (some ⟨q, 0, none⟩)) rfl (by kernel_rfl) (by kernel_rfl) (by kernel_rfl) (fun _ _ _ h => h) (.inl ⟨by rfl, fun wx hSw => ?_⟩) hHeld ?_
          · obtain ⟨s0, s1, s2, s3⟩ := hSw
            first | (go_simp; done) | (go_simp; rfl)
          simp only [List.getElem_toArray, List.getElem_cons_succ, List.getElem_cons_zero, Act.put, List.setIfInBounds_toArray, List.set_cons_zero, List.set_cons_succ]
          refine wpAnyH_take (i := 16) (oi := _) (v := .pointer (some ⟨q, 0, none⟩)) rfl (by kernel_rfl) (by kernel_rfl) (by kernel_rfl) (fun _ _ _ h => h) (.inl ⟨by rfl, fun wx hSw => ?_⟩) hHeld ?_
          · obtain ⟨s0, s1, s2, s3⟩ := hSw
            first | (go_simp; done) | (go_simp; rfl)
          simp only [List.getElem_toArray, List.getElem_cons_succ, List.getElem_cons_zero, Act.put, List.setIfInBounds_toArray, List.set_cons_zero, List.set_cons_succ]
          refine wpAnyH_take (i := 17) (oi := _) (v := .pointer (some ⟨q, 1, none⟩)) rfl (by kernel_rfl) (by kernel_rfl) (by kernel_rfl) (fun _ _ _ h => h) (.inl ⟨by rfl, fun wx hSw => ?_⟩) hHeld ?_
          · obtain ⟨s0, s1, s2, s3⟩ := hSw
            first | (go_simp; done) | (go_simp; rfl)
          simp only [List.getElem_toArray, List.getElem_cons_succ, List.getElem_cons_zero, Act.put, List.setIfInBounds_toArray, List.set_cons_zero, List.set_cons_succ]
          refine wpAnyH_take (i := 18) (oi := _) (v := .int .i64 p) rfl (by kernel_rfl) (by kernel_rfl) (by kernel_rfl) (fun _ _ _ h => h) (.inl ⟨by rfl, fun wx hSw => ?_⟩) hHeld ?_
          · obtain ⟨s0, s1, s2, s3⟩ := hSw
            first | (go_simp; done) | (go_simp; rfl)
          simp only [List.getElem_toArray, List.getElem_cons_succ, List.getElem_cons_zero, Act.put, List.setIfInBounds_toArray, List.set_cons_zero, List.set_cons_succ]
          refine wpAnyH_take (i := 19) (oi := _) (v := .bool true) rfl (by kernel_rfl) (by kernel_rfl) (by kernel_rfl) (fun _ _ _ h => h) (.inl ⟨by rfl, fun wx hSw => ?_⟩) hHeld ?_
          · obtain ⟨s0, s1, s2, s3⟩ := hSw
            first | (go_simp; done) | (go_simp; rfl)
          simp only [List.getElem_toArray, List.getElem_cons_succ, List.getElem_cons_zero, Act.put, List.setIfInBounds_toArray, List.set_cons_zero, List.set_cons_succ]
          refine wpAnyH_take (i := 20) (oi := _) (v := .bool true) rfl (by kernel_rfl) (by kernel_rfl) (by kernel_rfl) (fun _ _ _ h => h) (.inl ⟨by rfl, fun wx hSw => ?_⟩) hHeld ?_
          · obtain ⟨s0, s1, s2, s3⟩ := hSw
            first | (go_simp; done) | (go_simp; rfl)
          simp only [List.getElem_toArray, List.getElem_cons_succ, List.getElem_cons_zero, Act.put, List.setIfInBounds_toArray, List.set_cons_zero, List.set_cons_succ]
          refine wpAnyH_take (i := 21) (oi := _) (v := .bool true) rfl (by kernel_rfl) (by kernel_rfl) (by kernel_rfl) (fun _ _ _ h => h) (.inl ⟨by rfl, fun wx hSw => ?_⟩) hHeld ?_
          · obtain ⟨s0, s1, s2, s3⟩ := hSw
            first | (go_simp; done) | (go_simp; rfl)
          simp only [List.getElem_toArray, List.getElem_cons_succ, List.getElem_cons_zero, Act.put, List.setIfInBounds_toArray, List.set_cons_zero, List.set_cons_succ]
          refine wpAnyH_take (i := 22) (oi := _) (v := .bool true) rfl (by kernel_rfl) (by kernel_rfl) (by kernel_rfl) (fun _ _ _ h => h) (.inl ⟨by rfl, fun wx hSw => ?_⟩) hHeld ?_
          · obtain ⟨s0, s1, s2, s3⟩ := hSw
            first | (go_simp; done) | (go_simp; rfl)
          simp only [List.getElem_toArray, List.getElem_cons_succ, List.getElem_cons_zero, Act.put, List.setIfInBounds_toArray, List.set_cons_zero, List.set_cons_succ]
          refine wpAnyH_done (by kernel_rfl) ?_ _
          go_wp2
          go_ret
          exact ⟨ret_b (KT.out (HY.out hn1 hn2)), HBB.out.trans (b5.mono HBB.out.size)⟩
        · have hd2 : decide (c.p < p) = false := decide_eq_false hn2
          have hd1 : decide (nv ≤ c.p) = true := decide_eq_true hn1
          refine wp_region_held_drew (S := fun wx : World => wx.cell? ⟨G, 0, none⟩ = some (.int .i64 1) ∧ wx.cell? ⟨G, 1, none⟩ = some (.int .i64 c.b) ∧ wx.cell? ⟨G, 2, none⟩ = some (.int .i64 c.p) ∧ wx.cell? ⟨q, 1, none⟩ = some (.int .i64 p)) (by kernel_rfl) (HCM.out _ b0) (fun hHeld => ?_)
          refine wpAnyH_take (i := 0) (oi := _) (v := .pointer (some ⟨G, 0, none⟩)) rfl (by kernel_rfl) (by kernel_rfl) (by kernel_rfl) (fun _ _ _ h => h) (.inl ⟨by rfl, fun wx hSw => ?_⟩) hHeld ?_
          · obtain ⟨s0, s1, s2, s3⟩ := hSw
            first | (go_simp; done) | (go_simp; rfl)
          simp only [List.getElem_toArray, List.getElem_cons_succ, List.getElem_cons_zero, Act.put, List.setIfInBounds_toArray, List.set_cons_zero, List.set_cons_succ]
          refine wpAnyH_take (i := 1) (oi := _) (v := .int .i64 1) rfl (by kernel_rfl) (by kernel_rfl) (by kernel_rfl) (fun _ _ _ h => h) (.inl ⟨by rfl, fun wx hSw => ?_⟩) hHeld ?_
          · obtain ⟨s0, s1, s2, s3⟩ := hSw
            first | (go_simp; done) | (go_simp; rfl)
          simp only [List.getElem_toArray, List.getElem_cons_succ, List.getElem_cons_zero, Act.put, List.setIfInBounds_toArray, List.set_cons_zero, List.set_cons_succ]
          refine wpAnyH_take (i := 2) (oi := _) (v := .bool false) rfl (by kernel_rfl) (by kernel_rfl) (by kernel_rfl) (fun _ _ _ h => h) (.inl ⟨by rfl, fun wx hSw => ?_⟩) hHeld ?_
          · obtain ⟨s0, s1, s2, s3⟩ := hSw
            first | (go_simp; done) | (go_simp; rfl)
          simp only [List.getElem_toArray, List.getElem_cons_succ, List.getElem_cons_zero, Act.put, List.setIfInBounds_toArray, List.set_cons_zero, List.set_cons_succ]
          refine wpAnyH_take (i := 3) (oi := _) (v := .bool false) rfl (by kernel_rfl) (by kernel_rfl) (by kernel_rfl) (fun _ _ _ h => h) (.inl ⟨by rfl, fun wx hSw => ?_⟩) hHeld ?_
          · obtain ⟨s0, s1, s2, s3⟩ := hSw
            first | (go_simp; done) | (go_simp; rfl)
          simp only [List.getElem_toArray, List.getElem_cons_succ, List.getElem_cons_zero, Act.put, List.setIfInBounds_toArray, List.set_cons_zero, List.set_cons_succ]
          refine wpAnyH_take (i := 4) (oi := _) (v := .pointer (some ⟨G, 2, none⟩)) rfl (by kernel_rfl) (by kernel_rfl) (by kernel_rfl) (fun _ _ _ h => h) (.inl ⟨by rfl, fun wx hSw => ?_⟩) hHeld ?_
          · obtain ⟨s0, s1, s2, s3⟩ := hSw
            first | (go_simp; done) | (go_simp; rfl)
          simp only [List.getElem_toArray, List.getElem_cons_succ, List.getElem_cons_zero, Act.put, List.setIfInBounds_toArray, List.set_cons_zero, List.set_cons_succ]
          refine wpAnyH_take (i := 5) (oi := _) (v := .int .i64 c.p) rfl (by kernel_rfl) (by kernel_rfl) (by kernel_rfl) (fun _ _ _ h => h) (.inl ⟨by rfl, fun wx hSw => ?_⟩) hHeld ?_
          · obtain ⟨s0, s1, s2, s3⟩ := hSw
            first | (go_simp; done) | (go_simp; rfl)
          simp only [List.getElem_toArray, List.getElem_cons_succ, List.getElem_cons_zero, Act.put, List.setIfInBounds_toArray, List.set_cons_zero, List.set_cons_succ]
          refine wpAnyH_take (i := 6) (oi := _) (v := .pointer (some ⟨q, 0, none⟩)) rfl (by kernel_rfl) (by kernel_rfl) (by kernel_rfl) (fun _ _ _ h => h) (.inl ⟨by rfl, fun wx hSw => ?_⟩) hHeld ?_
          · obtain ⟨s0, s1, s2, s3⟩ := hSw
            first | (go_simp; done) | (go_simp; rfl)
          simp only [List.getElem_toArray, List.getElem_cons_succ, List.getElem_cons_zero, Act.put, List.setIfInBounds_toArray, List.set_cons_zero, List.set_cons_succ]
          refine wpAnyH_take (i := 7) (oi := _) (v := .pointer (some ⟨G, 1, none⟩)) rfl (by kernel_rfl) (by kernel_rfl) (by kernel_rfl) (fun _ _ _ h => h) (.inl ⟨by rfl, fun wx hSw => ?_⟩) hHeld ?_
          · obtain ⟨s0, s1, s2, s3⟩ := hSw
            first | (go_simp; done) | (go_simp; rfl)
          simp only [List.getElem_toArray, List.getElem_cons_succ, List.getElem_cons_zero, Act.put, List.setIfInBounds_toArray, List.set_cons_zero, List.set_cons_succ]
          refine wpAnyH_take (i := 8) (oi := _) (v := .int .i64 c.b) rfl (by kernel_rfl) (by kernel_rfl) (by kernel_rfl) (fun _ _ _ h => h) (.inl ⟨by rfl, fun wx hSw => ?_⟩) hHeld ?_
          · obtain ⟨s0, s1, s2, s3⟩ := hSw
            first | (go_simp; done) | (go_simp; rfl)
          simp only [List.getElem_toArray, List.getElem_cons_succ, List.getElem_cons_zero, Act.put, List.setIfInBounds_toArray, List.set_cons_zero, List.set_cons_succ]
          refine wpAnyH_ready (rs := [9]) (by kernel_rfl) (by simp) ?_
          refine AllReadyH.cons (o := _) rfl (fun K hK => ?_) (AllReadyH.nil)
          simp only [List.getElem_toArray, List.getElem_cons_succ, List.getElem_cons_zero]
          go_simp
          with_reducible refine (HNX.out _ (HBB.out.trans (b0.mono HBB.out.size))).mono ?_
          rintro e w5 ⟨rfl, hb6⟩
          have b5 := b0.trans (hb6.mono b0.size)
          clear hb6
          dsimp only
          clear hHeld
          refine hK.out _ _ (HCM.out _ b5) (fun hHeld => ?_)
          clear hK K
          try simp only [List.getElem_toArray, List.getElem_cons_succ, List.getElem_cons_zero, Act.put, List.setIfInBounds_toArray, List.set_cons_zero, List.set_cons_succ]
          refine wpAnyH_take (i := 10) (oi := _) (v := .bool true) rfl (by kernel_rfl) (by kernel_rfl) (by kernel_rfl) (fun _ _ _ h => h) (.inl ⟨by rfl, fun wx hSw => ?_⟩) hHeld ?_
          · obtain ⟨s0, s1, s2, s3⟩ := hSw
            first | (go_simp; done) | (go_simp; rfl)
          simp only [List.getElem_toArray, List.getElem_cons_succ, List.getElem_cons_zero, Act.put, List.setIfInBounds_toArray, List.set_cons_zero, List.set_cons_succ]
          refine wpAnyH_take (i := 11) (oi := _) (v := .bool true) rfl (by kernel_rfl) (by kernel_rfl) (by kernel_rfl) (fun _ _ _ h => h) (.inl ⟨by rfl, fun wx hSw => ?_⟩) hHeld ?_
          · obtain ⟨s0, s1, s2, s3⟩ := hSw
            first | (go_simp; done) | (go_simp; rfl)
          simp only [List.getElem_toArray, List.getElem_cons_succ, List.getElem_cons_zero, Act.put, List.setIfInBounds_toArray, List.set_cons_zero, List.set_cons_succ]
          refine wpAnyH_take (i := 12) (oi := _) (v := .pointer (some ⟨G, 2, none⟩)) rfl (by kernel_rfl) (by kernel_rfl) (by kernel_rfl) (fun _ _ _ h => h) (.inl ⟨by rfl, fun wx hSw => ?_⟩) hHeld ?_
          · obtain ⟨s0, s1, s2, s3⟩ := hSw
            first | (go_simp; done) | (go_simp; rfl)
          simp only [List.getElem_toArray, List.getElem_cons_succ, List.getElem_cons_zero, Act.put, List.setIfInBounds_toArray, List.set_cons_zero, List.set_cons_succ]
          refine wpAnyH_take (i := 13) (oi := _) (v := .int .i64 c.p) rfl (by kernel_rfl) (by kernel_rfl) (by kernel_rfl) (fun _ _ _ h => h) (.inl ⟨by rfl, fun wx hSw => ?_⟩) hHeld ?_
          · obtain ⟨s0, s1, s2, s3⟩ := hSw
            first | (go_simp; done) | (go_simp; rfl)
          simp only [List.getElem_toArray, List.getElem_cons_succ, List.getElem_cons_zero, Act.put, List.setIfInBounds_toArray, List.set_cons_zero, List.set_cons_succ]
          refine wpAnyH_take (i := 14) (oi := _) (v := .pointer (some ⟨q, 0, none⟩)) rfl (by kernel_rfl) (by kernel_rfl) (by kernel_rfl) (fun _ _ _ h => h) (.inl ⟨by rfl, fun wx hSw => ?_⟩) hHeld ?_
          · obtain ⟨s0, s1, s2, s3⟩ := hSw
            first | (go_simp; done) | (go_simp; rfl)
          simp only [List.getElem_toArray, List.getElem_cons_succ, List.getElem_cons_zero, Act.put, List.setIfInBounds_toArray, List.set_cons_zero, List.set_cons_succ]
          refine wpAnyH_take (i := 15) (oi := _) (v := .pointer (some ⟨q, 0, none⟩)) rfl (by kernel_rfl) (by kernel_rfl) (by kernel_rfl) (fun _ _ _ h => h) (.inl ⟨by rfl, fun wx hSw => ?_⟩) hHeld ?_
          · obtain ⟨s0, s1, s2, s3⟩ := hSw
            first | (go_simp; done) | (go_simp; rfl)
          simp only [List.getElem_toArray, List.getElem_cons_succ, List.getElem_cons_zero, Act.put, List.setIfInBounds_toArray, List.set_cons_zero, List.set_cons_succ]
          refine wpAnyH_take (i := 16) (oi := _) (v := .pointer (some ⟨q, 0, none⟩)) rfl (by kernel_rfl) (by kernel_rfl) (by kernel_rfl) (fun _ _ _ h => h) (.inl ⟨by rfl, fun wx hSw => ?_⟩) hHeld ?_
          · obtain ⟨s0, s1, s2, s3⟩ := hSw
            first | (go_simp; done) | (go_simp; rfl)
          simp only [List.getElem_toArray, List.getElem_cons_succ, List.getElem_cons_zero, Act.put, List.setIfInBounds_toArray, List.set_cons_zero, List.set_cons_succ]
          refine wpAnyH_take (i := 17) (oi := _) (v := .pointer (some ⟨q, 1, none⟩)) rfl (by kernel_rfl) (by kernel_rfl) (by kernel_rfl) (fun _ _ _ h => h) (.inl ⟨by rfl, fun wx hSw => ?_⟩) hHeld ?_
          · obtain ⟨s0, s1, s2, s3⟩ := hSw
            first | (go_simp; done) | (go_simp; rfl)
          simp only [List.getElem_toArray, List.getElem_cons_succ, List.getElem_cons_zero, Act.put, List.setIfInBounds_toArray, List.set_cons_zero, List.set_cons_succ]
          refine wpAnyH_take (i := 18) (oi := _) (v := .int .i64 p) rfl (by kernel_rfl) (by kernel_rfl) (by kernel_rfl) (fun _ _ _ h => h) (.inl ⟨by rfl, fun wx hSw => ?_⟩) hHeld ?_
          · obtain ⟨s0, s1, s2, s3⟩ := hSw
            first | (go_simp; done) | (go_simp; rfl)
          simp only [List.getElem_toArray, List.getElem_cons_succ, List.getElem_cons_zero, Act.put, List.setIfInBounds_toArray, List.set_cons_zero, List.set_cons_succ]
          refine wpAnyH_take (i := 19) (oi := _) (v := .bool false) rfl (by kernel_rfl) (by kernel_rfl) (by kernel_rfl) (fun _ _ _ h => h) (.inl ⟨by rfl, fun wx hSw => ?_⟩) hHeld ?_
          · obtain ⟨s0, s1, s2, s3⟩ := hSw
            first | (go_simp; done) | (go_simp; rfl)
          simp only [List.getElem_toArray, List.getElem_cons_succ, List.getElem_cons_zero, Act.put, List.setIfInBounds_toArray, List.set_cons_zero, List.set_cons_succ]
          refine wpAnyH_take (i := 20) (oi := _) (v := .bool false) rfl (by kernel_rfl) (by kernel_rfl) (by kernel_rfl) (fun _ _ _ h => h) (.inl ⟨by rfl, fun wx hSw => ?_⟩) hHeld ?_
          · obtain ⟨s0, s1, s2, s3⟩ := hSw
            first | (go_simp; done) | (go_simp; rfl)
          simp only [List.getElem_toArray, List.getElem_cons_succ, List.getElem_cons_zero, Act.put, List.setIfInBounds_toArray, List.set_cons_zero, List.set_cons_succ]
          refine wpAnyH_take (i := 21) (oi := _) (v := .bool false) rfl (by kernel_rfl) (by kernel_rfl) (by kernel_rfl) (fun _ _ _ h => h) (.inl ⟨by rfl, fun wx hSw => ?_⟩) hHeld ?_
          · obtain ⟨s0, s1, s2, s3⟩ := hSw
            first | (go_simp; done) | (go_simp; rfl)
          simp only [List.getElem_toArray, List.getElem_cons_succ, List.getElem_cons_zero, Act.put, List.setIfInBounds_toArray, List.set_cons_zero, List.set_cons_succ]
          refine wpAnyH_take (i := 22) (oi := _) (v := .bool false) rfl (by kernel_rfl) (by kernel_rfl) (by kernel_rfl) (fun _ _ _ h => h) (.inl ⟨by rfl, fun wx hSw => ?_⟩) hHeld ?_
          · obtain ⟨s0, s1, s2, s3⟩ := hSw
            first | (go_simp; done) | (go_simp; rfl)
          simp only [List.getElem_toArray, List.getElem_cons_succ, List.getElem_cons_zero, Act.put, List.setIfInBounds_toArray, List.set_cons_zero, List.set_cons_succ]
          refine wpAnyH_done (by kernel_rfl) ?_ _
          go_wp2
          go_ret
          exact ⟨ret_b (KF.out fun h => by have := (HLS.out h).2; omega), HBB.out.trans (b5.mono HBB.out.size)⟩
      · have hd1 : decide (nv ≤ c.p) = false := decide_eq_false hn1
        refine wp_region_held_drew (S := fun wx : World => wx.cell? ⟨G, 0, none⟩ = some (.int .i64 1) ∧ wx.cell? ⟨G, 1, none⟩ = some (.int .i64 c.b) ∧ wx.cell? ⟨G, 2, none⟩ = some (.int .i64 c.p) ∧ wx.cell? ⟨q, 1, none⟩ = some (.int .i64 p)) (by kernel_rfl) (HCM.out _ b0) (fun hHeld => ?_)
        refine wpAnyH_take (i := 0) (oi := _) (v := .pointer (some ⟨G, 0, none⟩)) rfl (by kernel_rfl) (by kernel_rfl) (by kernel_rfl) (fun _ _ _ h => h) (.inl ⟨by rfl, fun wx hSw => ?_⟩) hHeld ?_
        · obtain ⟨s0, s1, s2, s3⟩ := hSw
          first | (go_simp; done) | (go_simp; rfl)
        simp only [List.getElem_toArray, List.getElem_cons_succ, List.getElem_cons_zero, Act.put, List.setIfInBounds_toArray, List.set_cons_zero, List.set_cons_succ]
        refine wpAnyH_take (i := 1) (oi := _) (v := .int .i64 1) rfl (by kernel_rfl) (by kernel_rfl) (by kernel_rfl) (fun _ _ _ h => h) (.inl ⟨by rfl, fun wx hSw => ?_⟩) hHeld ?_
        · obtain ⟨s0, s1, s2, s3⟩ := hSw
          first | (go_simp; done) | (go_simp; rfl)
        simp only [List.getElem_toArray, List.getElem_cons_succ, List.getElem_cons_zero, Act.put, List.setIfInBounds_toArray, List.set_cons_zero, List.set_cons_succ]
        refine wpAnyH_take (i := 2) (oi := _) (v := .bool false) rfl (by kernel_rfl) (by kernel_rfl) (by kernel_rfl) (fun _ _ _ h => h) (.inl ⟨by rfl, fun wx hSw => ?_⟩) hHeld ?_
        · obtain ⟨s0, s1, s2, s3⟩ := hSw
          first | (go_simp; done) | (go_simp; rfl)
        simp only [List.getElem_toArray, List.getElem_cons_succ, List.getElem_cons_zero, Act.put, List.setIfInBounds_toArray, List.set_cons_zero, List.set_cons_succ]
        refine wpAnyH_take (i := 3) (oi := _) (v := .bool false) rfl (by kernel_rfl) (by kernel_rfl) (by kernel_rfl) (fun _ _ _ h => h) (.inl ⟨by rfl, fun wx hSw => ?_⟩) hHeld ?_
        · obtain ⟨s0, s1, s2, s3⟩ := hSw
          first | (go_simp; done) | (go_simp; rfl)
        simp only [List.getElem_toArray, List.getElem_cons_succ, List.getElem_cons_zero, Act.put, List.setIfInBounds_toArray, List.set_cons_zero, List.set_cons_succ]
        refine wpAnyH_take (i := 4) (oi := _) (v := .pointer (some ⟨G, 2, none⟩)) rfl (by kernel_rfl) (by kernel_rfl) (by kernel_rfl) (fun _ _ _ h => h) (.inl ⟨by rfl, fun wx hSw => ?_⟩) hHeld ?_
        · obtain ⟨s0, s1, s2, s3⟩ := hSw
          first | (go_simp; done) | (go_simp; rfl)
        simp only [List.getElem_toArray, List.getElem_cons_succ, List.getElem_cons_zero, Act.put, List.setIfInBounds_toArray, List.set_cons_zero, List.set_cons_succ]
        refine wpAnyH_take (i := 5) (oi := _) (v := .int .i64 c.p) rfl (by kernel_rfl) (by kernel_rfl) (by kernel_rfl) (fun _ _ _ h => h) (.inl ⟨by rfl, fun wx hSw => ?_⟩) hHeld ?_
        · obtain ⟨s0, s1, s2, s3⟩ := hSw
          first | (go_simp; done) | (go_simp; rfl)
        simp only [List.getElem_toArray, List.getElem_cons_succ, List.getElem_cons_zero, Act.put, List.setIfInBounds_toArray, List.set_cons_zero, List.set_cons_succ]
        refine wpAnyH_take (i := 6) (oi := _) (v := .pointer (some ⟨q, 0, none⟩)) rfl (by kernel_rfl) (by kernel_rfl) (by kernel_rfl) (fun _ _ _ h => h) (.inl ⟨by rfl, fun wx hSw => ?_⟩) hHeld ?_
        · obtain ⟨s0, s1, s2, s3⟩ := hSw
          first | (go_simp; done) | (go_simp; rfl)
        simp only [List.getElem_toArray, List.getElem_cons_succ, List.getElem_cons_zero, Act.put, List.setIfInBounds_toArray, List.set_cons_zero, List.set_cons_succ]
        refine wpAnyH_take (i := 7) (oi := _) (v := .pointer (some ⟨G, 1, none⟩)) rfl (by kernel_rfl) (by kernel_rfl) (by kernel_rfl) (fun _ _ _ h => h) (.inl ⟨by rfl, fun wx hSw => ?_⟩) hHeld ?_
        · obtain ⟨s0, s1, s2, s3⟩ := hSw
          first | (go_simp; done) | (go_simp; rfl)
        simp only [List.getElem_toArray, List.getElem_cons_succ, List.getElem_cons_zero, Act.put, List.setIfInBounds_toArray, List.set_cons_zero, List.set_cons_succ]
        refine wpAnyH_take (i := 8) (oi := _) (v := .int .i64 c.b) rfl (by kernel_rfl) (by kernel_rfl) (by kernel_rfl) (fun _ _ _ h => h) (.inl ⟨by rfl, fun wx hSw => ?_⟩) hHeld ?_
        · obtain ⟨s0, s1, s2, s3⟩ := hSw
          first | (go_simp; done) | (go_simp; rfl)
        simp only [List.getElem_toArray, List.getElem_cons_succ, List.getElem_cons_zero, Act.put, List.setIfInBounds_toArray, List.set_cons_zero, List.set_cons_succ]
        refine wpAnyH_ready (rs := [9]) (by kernel_rfl) (by simp) ?_
        refine AllReadyH.cons (o := _) rfl (fun K hK => ?_) (AllReadyH.nil)
        simp only [List.getElem_toArray, List.getElem_cons_succ, List.getElem_cons_zero]
        go_simp
        with_reducible refine (HNX.out _ (HBB.out.trans (b0.mono HBB.out.size))).mono ?_
        rintro e w5 ⟨rfl, hb6⟩
        have b5 := b0.trans (hb6.mono b0.size)
        clear hb6
        dsimp only
        clear hHeld
        refine hK.out _ _ (HCM.out _ b5) (fun hHeld => ?_)
        clear hK K
        try simp only [List.getElem_toArray, List.getElem_cons_succ, List.getElem_cons_zero, Act.put, List.setIfInBounds_toArray, List.set_cons_zero, List.set_cons_succ]
        refine wpAnyH_take (i := 10) (oi := _) (v := .bool false) rfl (by kernel_rfl) (by kernel_rfl) (by kernel_rfl) (fun _ _ _ h => h) (.inl ⟨by rfl, fun wx hSw => ?_⟩) hHeld ?_
        · obtain ⟨s0, s1, s2, s3⟩ := hSw
          first | (go_simp; done) | (go_simp; rfl)
        simp only [List.getElem_toArray, List.getElem_cons_succ, List.getElem_cons_zero, Act.put, List.setIfInBounds_toArray, List.set_cons_zero, List.set_cons_succ]
        refine wpAnyH_take (i := 11) (oi := _) (v := .bool false) rfl (by kernel_rfl) (by kernel_rfl) (by kernel_rfl) (fun _ _ _ h => h) (.inl ⟨by rfl, fun wx hSw => ?_⟩) hHeld ?_
        · obtain ⟨s0, s1, s2, s3⟩ := hSw
          first | (go_simp; done) | (go_simp; rfl)
        simp only [List.getElem_toArray, List.getElem_cons_succ, List.getElem_cons_zero, Act.put, List.setIfInBounds_toArray, List.set_cons_zero, List.set_cons_succ]
        refine wpAnyH_take (i := 12) (oi := _) (v := undef) rfl (by kernel_rfl) (by kernel_rfl) (by kernel_rfl) (fun _ _ _ h => h) (.inr ⟨by rfl, rfl⟩) hHeld ?_
        simp only [List.getElem_toArray, List.getElem_cons_succ, List.getElem_cons_zero, Act.put, List.setIfInBounds_toArray, List.set_cons_zero, List.set_cons_succ]
        refine wpAnyH_take (i := 13) (oi := _) (v := undef) rfl (by kernel_rfl) (by kernel_rfl) (by kernel_rfl) (fun _ _ _ h => h) (.inr ⟨by rfl, rfl⟩) hHeld ?_
        simp only [List.getElem_toArray, List.getElem_cons_succ, List.getElem_cons_zero, Act.put, List.setIfInBounds_toArray, List.set_cons_zero, List.set_cons_succ]
        refine wpAnyH_take (i := 14) (oi := _) (v := undef) rfl (by kernel_rfl) (by kernel_rfl) (by kernel_rfl) (fun _ _ _ h => h) (.inr ⟨by rfl, rfl⟩) hHeld ?_
        simp only [List.getElem_toArray, List.getElem_cons_succ, List.getElem_cons_zero, Act.put, List.setIfInBounds_toArray, List.set_cons_zero, List.set_cons_succ]
        refine wpAnyH_take (i := 15) (oi := _) (v := undef) rfl (by kernel_rfl) (by kernel_rfl) (by kernel_rfl) (fun _ _ _ h => h) (.inr ⟨by rfl, rfl⟩) hHeld ?_
        simp only [List.getElem_toArray, List.getElem_cons_succ, List.getElem_cons_zero, Act.put, List.setIfInBounds_toArray, List.set_cons_zero, List.set_cons_succ]
        refine wpAnyH_take (i := 16) (oi := _) (v := undef) rfl (by kernel_rfl) (by kernel_rfl) (by kernel_rfl) (fun _ _ _ h => h) (.inr ⟨by rfl, rfl⟩) hHeld ?_
        simp only [List.getElem_toArray, List.getElem_cons_succ, List.getElem_cons_zero, Act.put, List.setIfInBounds_toArray, List.set_cons_zero, List.set_cons_succ]
        refine wpAnyH_take (i := 17) (oi := _) (v := undef) rfl (by kernel_rfl) (by kernel_rfl) (by kernel_rfl) (fun _ _ _ h => h) (.inr ⟨by rfl, rfl⟩) hHeld ?_
        simp only [List.getElem_toArray, List.getElem_cons_succ, List.getElem_cons_zero, Act.put, List.setIfInBounds_toArray, List.set_cons_zero, List.set_cons_succ]
        refine wpAnyH_take (i := 18) (oi := _) (v := undef) rfl (by kernel_rfl) (by kernel_rfl) (by kernel_rfl) (fun _ _ _ h => h) (.inr ⟨by rfl, rfl⟩) hHeld ?_
        simp only [List.getElem_toArray, List.getElem_cons_succ, List.getElem_cons_zero, Act.put, List.setIfInBounds_toArray, List.set_cons_zero, List.set_cons_succ]
        refine wpAnyH_take (i := 19) (oi := _) (v := undef) rfl (by kernel_rfl) (by kernel_rfl) (by kernel_rfl) (fun _ _ _ h => h) (.inr ⟨by rfl, rfl⟩) hHeld ?_
        simp only [List.getElem_toArray, List.getElem_cons_succ, List.getElem_cons_zero, Act.put, List.setIfInBounds_toArray, List.set_cons_zero, List.set_cons_succ]
        refine wpAnyH_take (i := 20) (oi := _) (v := .bool false) rfl (by kernel_rfl) (by kernel_rfl) (by kernel_rfl) (fun _ _ _ h => h) (.inl ⟨by rfl, fun wx hSw => ?_⟩) hHeld ?_
        · obtain ⟨s0, s1, s2, s3⟩ := hSw
          first | (go_simp; done) | (go_simp; rfl)
        simp only [List.getElem_toArray, List.getElem_cons_succ, List.getElem_cons_zero, Act.put, List.setIfInBounds_toArray, List.set_cons_zero, List.set_cons_succ]
        refine wpAnyH_take (i := 21) (oi := _) (v := .bool false) rfl (by kernel_rfl) (by kernel_rfl) (by kernel_rfl) (fun _ _ _ h => h) (.inl ⟨by rfl, fun wx hSw => ?_⟩) hHeld ?_
        · obtain ⟨s0, s1, s2, s3⟩ := hSw
          first | (go_simp; done) | (go_simp; rfl)
        simp only [List.getElem_toArray, List.getElem_cons_succ, List.getElem_cons_zero, Act.put, List.setIfInBounds_toArray, List.set_cons_zero, List.set_cons_succ]
        refine wpAnyH_take (i := 22) (oi := _) (v := .bool false) rfl (by kernel_rfl) (by kernel_rfl) (by kernel_rfl) (fun _ _ _ h => h) (.inl ⟨by rfl, fun wx hSw => ?_⟩) hHeld ?_
        · obtain ⟨s0, s1, s2, s3⟩ := hSw
          first | (go_simp; done) | (go_simp; rfl)
        simp only [List.getElem_toArray, List.getElem_cons_succ, List.getElem_cons_zero, Act.put, List.setIfInBounds_toArray, List.set_cons_zero, List.set_cons_succ]
        refine wpAnyH_done (by kernel_rfl) ?_ _
        go_wp2
        go_ret
        exact ⟨ret_b (KF.out fun h => by have := (HLS.out h).1; omega), HBB.out.trans (b5.mono HBB.out.size)⟩
    · have hyes : KpR b p m clean seen c := HD.out.2 ⟨HG.out.1, HG.out.2.1, HG.out.2.2, fun _ => HMF.out, fun h => absurd h hk1⟩
      have HY := Lib.hid hyes
      have hk1b : (c.k != 1) = true := by simpa using hk1
      clear hyes g1 g2 g3 g4
      go_wp2_with fail
      with_reducible refine (hmc _ bb).mono ?_
      rintro e w' ⟨rfl, rfl⟩
      clear hmc
      go_wp2
      go_quiet (fail)
      go_wp2
      go_ret
      exact ⟨ret_b (KT.out HY.out), bel_drewN bb _⟩
end Go.Proofs.Ytagfcndpblekkaa
