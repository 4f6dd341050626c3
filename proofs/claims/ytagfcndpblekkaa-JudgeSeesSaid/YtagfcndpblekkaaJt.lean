/- The walk of judge's keeps. -/
import Derived.Test.YtagfcndpblekkaaJs
namespace Go.Proofs.Ytagfcndpblekkaa
open Go.RowKit Go.Maps
set_option linter.unusedVariables false
set_option linter.unusedSimpArgs false
instance (B pg : Int) (J : JS) (c : Cmd) : Decidable (KpP B pg J c) := by unfold KpP okS; infer_instance
def cmdC (c : Cmd) : List Value := [.int .i64 c.k, .int .i64 c.b, .int .i64 c.p, .int .i64 c.s]
def CmdI (c : Cmd) : Prop := I64 c.k ∧ I64 c.b ∧ I64 c.p ∧ I64 c.s
theorem JP.drewN {w : World} {a : JA} {Bn : Nat} {b pg sc : Int} {J : JS} {n : Nat} (h : JP w a Bn b pg sc J n) (k : Nat) : JP (w.drewN k) a Bn b pg sc J n := h.bel (bel_drewN (Below.refl _ _) k)
def kpP (B pg : Int) (J : JS) (c : Cmd) : Bool := decide (KpP B pg J c)
theorem kp_false {B pg : Int} {J : JS} {c : Cmd} (h : ¬ KpP B pg J c) : false = kpP B pg J c := (decide_eq_false h).symm
theorem kp_true {B pg : Int} {J : JS} {c : Cmd} (h : KpP B pg J c) : true = kpP B pg J c := (decide_eq_true h).symm
theorem ret_b {x y : Bool} (h : x = y) : Ending.returned (Value.bool x) = Ending.returned (Value.bool y) := by rw [h]
set_option maxRecDepth 100000 in
set_option maxHeartbeats 6400000 in
theorem keeps_any (a : JA) (Bn : Nat) (b p s : Int) (J : JS) (n : Nat) (c : Cmd) (w : World) (h : JP w a Bn b p s J n) (hB : b = Bn) (hc : CmdI c) (hf : J.fl.length = Bn) (ht : J.tp.length = Bn) :
    Calls Try.prog 36 #[.pointer (some ⟨a.q, 0, none⟩), .agg #[.int .i64 c.k, .int .i64 c.b, .int .i64 c.p, .int .i64 c.s]] w fun e w' => e = .returned (.bool (kpP b p J c)) ∧ Below w.heap.size w w' := by
  obtain ⟨w1, hw1⟩ : ∃ x, x = w.alloc (.cells #[.int .i64 c.k, .int .i64 c.b, .int .i64 c.p, .int .i64 c.s] 33) := ⟨_, rfl⟩
  have b1 : Below w.heap.size w w1 := by rw [hw1]; exact (Below.refl _ w).alloc (Nat.le_refl _) _
  have kc : Blk w1 w.heap.size 33 [.int .i64 c.k, .int .i64 c.b, .int .i64 c.p, .int .i64 c.s] := by rw [hw1]; exact Blk.new w _ [.int .i64 c.k, .int .i64 c.b, .int .i64 c.p, .int .i64 c.s]
  have h1 := h.bel b1
  obtain ⟨G, hG⟩ : ∃ G, G = w.heap.size := ⟨_, rfl⟩
  rw [← hG] at kc
  have HJ := Lib.hid h1
  have HKC := Lib.hid kc
  obtain ⟨c0, c1, c3, c4, c5, c6, c7⟩ := cellsJ h1
  have k0 : w1.cell? ⟨G, 0, none⟩ = some (.int .i64 c.k) := kc.cell 0
  have k1 : w1.cell? ⟨G, 1, none⟩ = some (.int .i64 c.b) := kc.cell 1
  have k2 : w1.cell? ⟨G, 2, none⟩ = some (.int .i64 c.p) := kc.cell 2
  have k3 : w1.cell? ⟨G, 3, none⟩ = some (.int .i64 c.s) := kc.cell 3
  obtain ⟨i0, i1, i2, i3⟩ := hc
  have HI1 := Lib.hid i1
  have HI2 := Lib.hid i2
  have HF := Lib.hid hf
  have HT := Lib.hid ht
  have HBB := Lib.hid hB
  have kf := @kp_false b p J c
  have kt := @kp_true b p J c
  have KF := Lib.hid kf
  have KT := Lib.hid kt
  have hdef : KpP b p J c ↔ ((1 ≤ c.k ∧ c.k ≤ 3) ∧ (0 ≤ c.b ∧ c.b < b) ∧ (c.s = 0 ∨ c.s = 44 ∨ c.s = 45) ∧ (c.k ≠ 3 → J.ma c.b = 0) ∧ (c.k = 1 → lsP J c.b ≤ c.p ∧ c.p < p ∧ J.tr c.b c.p = 0)) := Iff.rfl
  have HD := Lib.hid hdef
  generalize kpP b p J c = KB at *
  clear h h1 kc kf kt hdef hB hf ht i0 i1 i2 i3
  by_cases hb0 : c.b < 0
  · go_enter Try.func36, Try.ntmps36
    go_wp2_with fail
    rw [← hw1, ← hG]
    clear hw1 hG
    go_wp2
    go_quiet (fail)
    go_wp2
    go_ret
    exact ⟨ret_b (KF.out fun q => by have := HD.out.1 q; omega), bel_drewN b1 _⟩
  by_cases hbB : b ≤ c.b
  · go_enter Try.func36, Try.ntmps36
    go_wp2_with fail
    rw [← hw1, ← hG]
    clear hw1 hG
    go_wp2
    go_quiet (fail)
    go_wp2
    go_ret
    exact ⟨ret_b (KF.out fun q => by have := HD.out.1 q; omega), bel_drewN b1 _⟩
  go_enter Try.func36, Try.ntmps36
  go_wp2_with fail
  rw [← hw1, ← hG]
  clear hw1 hG
  go_wp2
  go_quiet (fail)
  go_upto_region 3 with fail
  obtain ⟨w2, hw2⟩ : ∃ x, x = w1.drewN nq := ⟨_, rfl⟩
  rw [← hw2]
  have h2 : JP w2 a Bn b p s J n := by rw [hw2]; exact HJ.out.drewN nq
  have kc : Blk w2 G 33 [.int .i64 c.k, .int .i64 c.b, .int .i64 c.p, .int .i64 c.s] := by rw [hw2]; exact HKC.out.frm (ex := fun _ => False) (Frm.of_below (bel_drewN (Below.refl _ _) nq)) id
  have bb : Below w.heap.size w w2 := by rw [hw2]; exact bel_drewN b1 nq
  clear c0 c1 c3 c4 c5 c6 c7 k0 k1 k2 k3 hw2
  obtain ⟨c0, c1, c3, c4, c5, c6, c7⟩ := cellsJ h2
  have k0 : w2.cell? ⟨G, 0, none⟩ = some (.int .i64 c.k) := kc.cell 0
  have k1 : w2.cell? ⟨G, 1, none⟩ = some (.int .i64 c.b) := kc.cell 1
  have k2 : w2.cell? ⟨G, 2, none⟩ = some (.int .i64 c.p) := kc.cell 2
  have k3 : w2.cell? ⟨G, 3, none⟩ = some (.int .i64 c.s) := kc.cell 3
  go_cut [1, 30] (fun _ v wx => wx = w2 ∧ ∃ sb : Bool, v = .bool sb ∧ (sb = true ↔ ¬ (c.s = 0 ∨ c.s = 44 ∨ c.s = 45)))
  case first =>
    go_wp2
    all_goals (go_meet; exact ⟨rfl, _, rfl, by simp; omega⟩)
  case rest =>
  obtain ⟨rfl, sb, rfl, hsb⟩ := hcut
  generalize wc = w2 at *
  have HSB := Lib.hid hsb
  clear hsb
  cases sb with
  | true =>
    go_wp2
    go_ret
    exact ⟨ret_b (KF.out fun q => by have := HD.out.1 q; have := HSB.out.1 (by trivial); omega), bb⟩
  | false =>
    have hok : c.s = 0 ∨ c.s = 44 ∨ c.s = 45 := by
      apply Decidable.byContradiction
      intro hh
      cases HSB.out.2 hh
    have HOK := Lib.hid hok
    clear hok
    by_cases hk3 : c.k = 3
    · go_wp2
      go_ret
      exact ⟨ret_b (KT.out (HD.out.2 ⟨by omega, by omega, HOK.out, fun q => absurd hk3 q, fun q => by omega⟩)), bb⟩
    by_cases hk2 : c.k = 2
    · have hlk := fun m => (h2.drewN m).ma.look HI1.out
      have hne : c.k ≠ 3 := hk3
      by_cases hm : J.ma c.b = 0
      · have hyes : KpP b p J c := HD.out.2 ⟨by omega, by omega, HOK.out, fun _ => hm, fun q => by omega⟩
        rw [hm] at hlk
        have HY := Lib.hid hyes
        clear hyes hm
        go_wp2
        go_quiet (fail)
        go_wp2
        go_ret
        exact ⟨ret_b (KT.out HY.out), bel_drewN bb _⟩
      · have hno : ¬ KpP b p J c := fun q => hm ((HD.out.1 q).2.2.2.1 hne)
        have HNO := Lib.hid hno
        generalize J.ma c.b = mv at *
        have hmb : (mv == 0) = false := by simpa using hm
        clear hno
        go_wp2
        go_quiet (fail)
        go_wp2
        go_ret
        exact ⟨ret_b (KF.out HNO.out), bel_drewN bb _⟩
    by_cases hk1 : c.k = 1
    · have hlk := fun m => (h2.drewN m).ma.look HI1.out
      have hne : c.k ≠ 3 := hk3
      by_cases hm : J.ma c.b = 0
      · rw [hm] at hlk
        obtain ⟨kb, hkb⟩ : ∃ kb : Nat, c.b = kb := ⟨c.b.toNat, by omega⟩
        have hl := fun m => least_any a Bn b p s J n kb (w2.drewN m) (h2.drewN m) (by have := HBB.out; omega) HF.out HT.out
        simp only [← hkb] at hl
        have hls2 := fun (q : KpP b p J c) => ((HD.out.1 q).2.2.2.2 hk1)
        have hyes := fun (q1 : lsP J c.b ≤ c.p) (q2 : c.p < p) (q3 : J.tr c.b c.p = 0) => HD.out.2 ⟨by omega, by omega, HOK.out, fun _ => hm, fun _ => ⟨q1, q2, q3⟩⟩
        have HLS := Lib.hid hls2
        have HY := Lib.hid hyes
        have hlt := fun m => (h2.drewN m).tr.look HI1.out HI2.out
        have HLT := Lib.hid hlt
        generalize lsP J c.b = lv at *
        clear hls2 hyes hm hkb hlt
        by_cases hp1 : lv ≤ c.p
        · by_cases hp2 : c.p < p
          · have hlt := HLT.out
            by_cases ht0 : J.tr c.b c.p = 0
            · rw [ht0] at hlt
              have hyy := HY.out hp1 hp2 ht0
              have HYY := Lib.hid hyy
              clear hyy ht0 hlt
              have hlt := HLT.out
              rw [show J.tr c.b c.p = 0 from ((HD.out.1 HYY.out).2.2.2.2 hk1).2.2] at hlt
              go_wp2
              go_quiet ((with_reducible exact Calls.quiet_of (hl _)))
              go_wp2
              go_ret
              exact ⟨ret_b (KT.out HYY.out), bel_drewN bb _⟩
            · have hno : ¬ KpP b p J c := fun q => ht0 (HLS.out q).2.2
              have HNO := Lib.hid hno
              generalize J.tr c.b c.p = tv at *
              have htb : (tv == 0) = false := by simpa using ht0
              clear hno
              go_wp2
              go_quiet ((with_reducible exact Calls.quiet_of (hl _)))
              go_wp2
              go_ret
              exact ⟨ret_b (KF.out HNO.out), bel_drewN bb _⟩
          · have hno : ¬ KpP b p J c := fun q => hp2 (HLS.out q).2.1
            have hd2 : decide (c.p < p) = false := decide_eq_false hp2
            have HNO := Lib.hid hno
            clear hno
            go_wp2
            go_quiet ((with_reducible exact Calls.quiet_of (hl _)))
            go_wp2
            go_ret
            exact ⟨ret_b (KF.out HNO.out), bel_drewN bb _⟩
        · have hno : ¬ KpP b p J c := fun q => hp1 (HLS.out q).1
          have hd1 : decide (lv ≤ c.p) = false := decide_eq_false hp1
          have HNO := Lib.hid hno
          clear hno
          go_wp2
          go_quiet ((with_reducible exact Calls.quiet_of (hl _)))
          go_wp2
          go_ret
          exact ⟨ret_b (KF.out HNO.out), bel_drewN bb _⟩
      · have hno : ¬ KpP b p J c := fun q => hm ((HD.out.1 q).2.2.2.1 hne)
        have HNO := Lib.hid hno
        generalize J.ma c.b = mv at *
        have hmb : (mv == 0) = false := by simpa using hm
        clear hno
        go_wp2
        go_quiet (fail)
        go_wp2
        go_ret
        exact ⟨ret_b (KF.out HNO.out), bel_drewN bb _⟩
    have hno : ¬ KpP b p J c := fun q => by have := (HD.out.1 q).1; omega
    have HNO := Lib.hid hno
    clear hno
    go_wp2
    go_ret
    exact ⟨ret_b (KF.out HNO.out), bb⟩
end Go.Proofs.Ytagfcndpblekkaa
