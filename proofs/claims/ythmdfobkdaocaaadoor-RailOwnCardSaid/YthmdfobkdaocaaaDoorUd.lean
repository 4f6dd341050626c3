/- The law RailOwn: its walk (printed by gen_own.py). -/
import Derived.Test.YthmdfobkdaocaaaDoorRa
import Derived.Test.YthmdfobkdaocaaaDoorUc
import Derived.Laws.CopyOwn
namespace Go.Proofs.YthmdfobkdaocaaaDoor
open Go.RowKit
set_option linter.unusedVariables false
set_option linter.unusedSimpArgs false
def c60 (_ : Nat) : UInt8 := 60
set_option maxRecDepth 100000 in
set_option maxHeartbeats 6400000 in
theorem own_walk (w : World) (A : Option Addr) (n cap : Nat) (l : List UInt8) (hl : l.length = n) (hr : Rd w A (u8s l)) (hm : n ≤ 140737488351232) (A1 : Option Addr) (n1 c1 : Nat) (lc : List UInt8) (hlc : lc.length = n1) (hr1 : Rd w A1 (u8s lc)) (hm1 : n1 ≤ 140737488351232) (hT : SpT w) :
    Calls Tryd.prog 8 #[.slice A n cap, .slice A1 n1 c1] w fun e w' => e = .returned (.bool true) ∧ Below w.heap.size w w' := by
  have HL := Lib.hid hl
  have HLC := Lib.hid hlc
  have hh := heads_any w hT
  have HT := Lib.hid hT
  have hT0 := hT.pos
  clear hl hT hlc
  obtain ⟨B, hB⟩ : ∃ B, B = w.heap.size := ⟨_, rfl⟩
  have HB := Lib.hid hB
  have hB0 : 0 < B := by omega
  have hrk : ∀ wx, Below B w wx → Rd wx A (u8s l) := fun wx hx => hr.below (by rw [← HB.out]; exact hx)
  have hrk1 : ∀ wx, Below B w wx → Rd wx A1 (u8s lc) := fun wx hx => hr1.below (by rw [← HB.out]; exact hx)
  have HRK := Lib.hid hrk
  have HRK1 := Lib.hid hrk1
  clear hB hT0 hr hr1 hrk hrk1
  go_enter Tryd.func8, Tryd.ntmps8
  go_wp2_with fail
  with_reducible refine hh.mono ?_
  rintro e w1 ⟨rfl, b⟩
  have hsz : B ≤ w1.heap.size := by rw [HB.out]; exact b.size
  rw [← HB.out] at b
  clear hh
  have H := Hold.nil 5 w1 B
  go_wp2_with (first | (at_builtin; have re := (show Rd w1 A (u8s l) from HRK.out _ b).below ((Below.refl w1.heap.size w1).alloc (Nat.le_refl _) (.cells #[] 5)); refine wpList_appx _ rfl (.tmp 32) (.tmp 33) 22 rfl 5 _ 1 1 Tryd.underlying22 info5 rfl (by decide) rfl (owx_empty w1 5) rfl (by rw [u8s_length, HL.out]; exact (Nat.mul_one _).symm) re (one_u8s _) (by unfold maxLen; omega) (by omega) ?_; intro v2 w2 sp2 o2 y2; simp only [Nat.zero_add, List.nil_append] at o2; obtain ⟨f2, b2⟩ := copy_new y2; obtain ⟨A5, c5, rfl, _, _⟩ := o2.rd; replace H := H.snoc b2 o2 f2 hsz; simp only [List.cons_append, List.nil_append] at H; replace b := b.trans (b2.mono hsz); replace hsz := Nat.le_trans hsz b2.size; clear re y2 o2 f2 b2) | (at_builtin; have re := (show Rd w2 A1 (u8s lc) from HRK1.out _ b).below ((Below.refl w2.heap.size w2).alloc (Nat.le_refl _) (.cells #[] 5)); refine wpList_appx _ rfl (.tmp 35) (.tmp 36) 22 rfl 5 _ 1 1 Tryd.underlying22 info5 rfl (by decide) rfl (owx_empty w2 5) rfl (by rw [u8s_length, HLC.out]; exact (Nat.mul_one _).symm) re (one_u8s _) (by unfold maxLen; omega) (by omega) ?_; intro v2 w3 sp2 o2 y2; simp only [Nat.zero_add, List.nil_append] at o2; obtain ⟨f2, b2⟩ := copy_new y2; obtain ⟨A6, c6, rfl, _, _⟩ := o2.rd; replace H := H.snoc b2 o2 f2 hsz; simp only [List.cons_append, List.nil_append] at H; replace b := b.trans (b2.mono hsz); replace hsz := Nat.le_trans hsz b2.size; clear re y2 o2 f2 b2))
  by_cases hbig : 4095 < n
  · have hb2 : (4095 : Int) < (n : Int) := by omega
    have hLx := fun A' c' wx hr' hT' => Lay_no A' n c' l wx HL.out hr' hbig hm hT'
    have hLy := fun A' c' wx hr' hT' => Lay_any A' n1 c' lc wx HLC.out hr' hm1 hT'
    have r0 : Rd w3 A5 (u8s l) := H.rd (i := 0) (n := n) (c := c5) rfl
    go_wp2_with fail
    with_reducible refine (hLx _ _ _ r0 (HT.out.belowB b hB0)).mono ?_
    rintro e w4 ⟨A7, c7, rfl, b2⟩
    replace H := H.bel b2
    replace b := b.trans (b2.mono hsz)
    replace hsz := Nat.le_trans hsz b2.size
    clear r0 b2
    have r0 : Rd w4 A6 (u8s lc) := H.rd (i := 1) (n := n1) (c := c6) rfl
    go_wp2_with fail
    with_reducible refine (hLy _ _ _ r0 (HT.out.belowB b hB0)).mono ?_
    rintro e w5 ⟨v9, sp9, rfl, _, _, b2⟩
    replace H := H.bel b2
    replace b := b.trans (b2.mono hsz)
    replace hsz := Nat.le_trans hsz b2.size
    clear r0 b2
    have r0 : Rd w5 A5 (u8s l) := H.rd (i := 0) (n := n) (c := c5) rfl
    go_wp2_with fail
    with_reducible refine (hLx _ _ _ r0 (HT.out.belowB b hB0)).mono ?_
    rintro e w6 ⟨A11, c11, rfl, b2⟩
    replace H := H.bel b2
    replace b := b.trans (b2.mono hsz)
    replace hsz := Nat.le_trans hsz b2.size
    clear r0 b2 hLx hLy
    go_wp2_with (go_at_call 14; (with_reducible refine (no_any _ _).mono ?_); rintro e w' ⟨rfl, rfl⟩)
    have ra : Rd w6 A7 (u8s []) := Rd.nil _ _
    have rb : Rd w6 A11 (u8s []) := Rd.nil _ _

    with_reducible refine (same_true A7 A11 0 c7 c11 [] _ rfl ra rb (by decide)).mono ?_
    rintro e w7 ⟨rfl, hq⟩
    have b2 := bel_drawn hq
    replace H := H.bel b2
    replace b := b.trans (b2.mono hsz)
    replace hsz := Nat.le_trans hsz b2.size
    clear ra rb hq b2
    go_wp2_with (go_at_call 14; (with_reducible refine (no_any _ _).mono ?_); rintro e w' ⟨rfl, rfl⟩)
    go_ret
    exact ⟨rfl, by rw [← HB.out]; exact b⟩
  · have hb2 : ¬ (4095 : Int) < (n : Int) := by omega
    obtain ⟨m, hmm⟩ : ∃ m, m = 2 * n + 2 := ⟨_, rfl⟩
    have hm8 : m ≤ 8192 := by omega
    have hm2 : 2 ≤ m := by omega
    have hLx := fun A' c' wx hr' hT' => Lay_ok A' n m c' l wx HL.out hr' (by omega) hmm hT'
    have hL : (layB l).length = m := by rw [layB_len, HL.out, hmm]
    have HLL := Lib.hid hL
    have HMM := Lib.hid hmm
    have hq0 := fun A' c' wx hr' => Read_is A' m c' n (layB l) l (-1) 0 wx hL hr' (by omega) (read_lay l (by rw [HL.out]; omega)) HL.out
    have HQ0 := Lib.hid hq0
    clear hL hmm hq0
    have r0 : Rd w3 A5 (u8s l) := H.rd (i := 0) (n := n) (c := c5) rfl
    go_wp2_with fail
    with_reducible refine (hLx _ _ _ r0 (HT.out.belowB b hB0)).mono ?_
    rintro e w4 ⟨A7, c7, sp2, rfl, o2, f2, b2⟩
    replace H := H.snoc b2 o2 f2 hsz
    simp only [List.cons_append, List.nil_append] at H
    replace b := b.trans (b2.mono hsz)
    replace hsz := Nat.le_trans hsz b2.size
    clear r0 o2 f2 b2
    by_cases hbig1 : 4095 < n1
    · have hb3 : (4095 : Int) < (n1 : Int) := by omega
      have hLy := fun A' c' wx hr' hT' => Lay_no A' n1 c' lc wx HLC.out hr' hbig1 hm1 hT'
      have r0 : Rd w4 A6 (u8s lc) := H.rd (i := 1) (n := n1) (c := c6) rfl
      go_wp2_with fail
      with_reducible refine (hLy _ _ _ r0 (HT.out.belowB b hB0)).mono ?_
      rintro e w5 ⟨A9, c9, rfl, b2⟩
      replace H := H.bel b2
      replace b := b.trans (b2.mono hsz)
      replace hsz := Nat.le_trans hsz b2.size
      clear r0 b2 hLy
      have r0 : Rd w5 A5 (u8s l) := H.rd (i := 0) (n := n) (c := c5) rfl
      go_wp2_with fail
      with_reducible refine (hLx _ _ _ r0 (HT.out.belowB b hB0)).mono ?_
      rintro e w6 ⟨A11, c11, sp2, rfl, o2, f2, b2⟩
      replace H := H.snoc b2 o2 f2 hsz
      simp only [List.cons_append, List.nil_append] at H
      replace b := b.trans (b2.mono hsz)
      replace hsz := Nat.le_trans hsz b2.size
      clear r0 o2 f2 b2
      go_wp2_with (go_at_call 14; (with_reducible refine (no_any _ _).mono ?_); rintro e w' ⟨rfl, rfl⟩)
      have ra : Rd w6 A7 (u8s (layB l)) := H.rd (i := 2) (n := m) (c := c7) rfl
      have rb : Rd w6 A11 (u8s (layB l)) := H.rd (i := 3) (n := m) (c := c11) rfl

      with_reducible refine (same_true A7 A11 m c7 c11 (layB l) _ HLL.out ra rb (by omega)).mono ?_
      rintro e w7 ⟨rfl, hq⟩
      have b2 := bel_drawn hq
      replace H := H.bel b2
      replace b := b.trans (b2.mono hsz)
      replace hsz := Nat.le_trans hsz b2.size
      clear ra rb hq b2
      go_wp2_with (go_at_call 14; (with_reducible refine (no_any _ _).mono ?_); rintro e w' ⟨rfl, rfl⟩)
      go_ret
      exact ⟨rfl, by rw [← HB.out]; exact b⟩
    · have hb3 : ¬ (4095 : Int) < (n1 : Int) := by omega
      obtain ⟨m1, hmm1⟩ : ∃ m1, m1 = 2 * n1 + 2 := ⟨_, rfl⟩
      have hm18 : m1 ≤ 8192 := by omega
      have hm12 : 2 ≤ m1 := by omega
      have hLy := fun A' c' wx hr' hT' => Lay_ok A' n1 m1 c' lc wx HLC.out hr' (by omega) hmm1 hT'
      have hL1 : (layB lc).length = m1 := by rw [layB_len, HLC.out, hmm1]
      have HLL1 := Lib.hid hL1
      have hq1 := fun A' c' wx hr' => Read_is A' m1 c' n1 (layB lc) lc (-1) 0 wx hL1 hr' (by omega) (read_lay lc (by rw [HLC.out]; omega)) HLC.out
      have HQ1 := Lib.hid hq1
      clear hL1 hmm1 hq1
      have r0 : Rd w4 A6 (u8s lc) := H.rd (i := 1) (n := n1) (c := c6) rfl
      go_wp2_with fail
      with_reducible refine (hLy _ _ _ r0 (HT.out.belowB b hB0)).mono ?_
      rintro e w5 ⟨A9, c9, sp2, rfl, o2, f2, b2⟩
      replace H := H.snoc b2 o2 f2 hsz
      simp only [List.cons_append, List.nil_append] at H
      replace b := b.trans (b2.mono hsz)
      replace hsz := Nat.le_trans hsz b2.size
      clear r0 o2 f2 b2
      have r0 : Rd w5 A5 (u8s l) := H.rd (i := 0) (n := n) (c := c5) rfl
      go_wp2_with fail
      with_reducible refine (hLx _ _ _ r0 (HT.out.belowB b hB0)).mono ?_
      rintro e w6 ⟨A11, c11, sp2, rfl, o2, f2, b2⟩
      replace H := H.snoc b2 o2 f2 hsz
      simp only [List.cons_append, List.nil_append] at H
      replace b := b.trans (b2.mono hsz)
      replace hsz := Nat.le_trans hsz b2.size
      clear r0 o2 f2 b2
      clear hLx hLy
      go_wp2_with (go_at_call 14; (with_reducible refine (no_any _ _).mono ?_); rintro e w' ⟨rfl, rfl⟩)
      have ra : Rd w6 A7 (u8s (layB l)) := H.rd (i := 2) (n := m) (c := c7) rfl
      have rb : Rd w6 A11 (u8s (layB l)) := H.rd (i := 4) (n := m) (c := c11) rfl

      with_reducible refine (same_true A7 A11 m c7 c11 (layB l) _ HLL.out ra rb (by omega)).mono ?_
      rintro e w7 ⟨rfl, hq⟩
      have b2 := bel_drawn hq
      replace H := H.bel b2
      replace b := b.trans (b2.mono hsz)
      replace hsz := Nat.le_trans hsz b2.size
      clear ra rb hq b2
      go_wp2_with (first | (go_at_call 14; (with_reducible refine (no_any _ _).mono ?_); rintro e w' ⟨rfl, rfl⟩) | (at_builtin; have re := (show Rd w7 A7 (u8s (layB l)) from H.rd (i := 2) (n := m) (c := c7) rfl).below ((Below.refl w7.heap.size w7).alloc (Nat.le_refl _) (.cells #[] 5)); refine wpList_appx _ rfl (.tmp 72) (.tmp 73) 22 rfl 5 _ 1 1 Tryd.underlying22 info5 rfl (by decide) rfl (owx_empty w7 5) rfl (by rw [u8s_length, HLL.out]; exact (Nat.mul_one _).symm) re (one_u8s _) (by unfold maxLen; omega) (by omega) ?_; intro v2 w8 sp2 o2 y2; simp only [Nat.zero_add, List.nil_append] at o2; obtain ⟨f2, b2⟩ := copy_new y2; obtain ⟨B0, d0, rfl, _, _⟩ := o2.rd; replace H := H.snoc b2 o2 f2 hsz; simp only [List.cons_append, List.nil_append] at H; replace b := b.trans (b2.mono hsz); replace hsz := Nat.le_trans hsz b2.size; clear re y2 o2 f2 b2) | (at_builtin; have re := (show Rd w8 A9 (u8s (layB lc)) from H.rd (i := 3) (n := m1) (c := c9) rfl).below ((Below.refl w8.heap.size w8).alloc (Nat.le_refl _) (.cells #[] 5)); refine wpList_appx _ rfl (.tmp 75) (.tmp 76) 22 rfl 5 _ 1 1 Tryd.underlying22 info5 rfl (by decide) rfl (owx_empty w8 5) rfl (by rw [u8s_length, HLL1.out]; exact (Nat.mul_one _).symm) re (one_u8s _) (by unfold maxLen; omega) (by omega) ?_; intro v2 w9 sp2 o2 y2; simp only [Nat.zero_add, List.nil_append] at o2; obtain ⟨f2, b2⟩ := copy_new y2; obtain ⟨B1, d1, rfl, _, _⟩ := o2.rd; replace H := H.snoc b2 o2 f2 hsz; simp only [List.cons_append, List.nil_append] at H; replace b := b.trans (b2.mono hsz); replace hsz := Nat.le_trans hsz b2.size; clear re y2 o2 f2 b2))
      obtain ⟨G, hG⟩ : ∃ G, G = w9.heap.size := ⟨_, rfl⟩
      obtain ⟨w10, hwv⟩ : ∃ w10, w10 = w9.alloc (.cells #[.slice B0 m d0, .slice B1 m1 d1] 22) := ⟨_, rfl⟩
      have hk : Blk w10 G 22 [.slice B0 m d0, .slice B1 m1 d1] := by rw [hwv, hG]; exact blk_two _ _ _ _
      have b2 : Below w9.heap.size w9 w10 := by rw [hwv]; exact (Below.refl _ _).alloc (Nat.le_refl _) _
      rw [← hwv, ← hG]
      replace H := H.bel b2
      replace b := b.trans (b2.mono hsz)
      replace hsz := Nat.le_trans hsz b2.size
      clear hwv hG b2
      have r0 : Rd w10 B0 (u8s (layB l)) := H.rd (i := 5) (n := m) (c := d0) rfl
      have h0c : w10.cell? ⟨G, 0, none⟩ = some (.slice B0 m d0) := hk.cell 0
      go_wp2_with fail
      with_reducible refine (HQ0.out _ _ _ r0).mono ?_
      rintro e w11 ⟨A14, c14, sp2, rfl, o2, f2, _, b2⟩
      replace H := H.snoc b2 o2 f2 hsz
      simp only [List.cons_append, List.nil_append] at H
      replace hk := hk.bel b2
      replace b := b.trans (b2.mono hsz)
      replace hsz := Nat.le_trans hsz b2.size
      clear r0 o2 f2 b2 h0c
      have r0 : Rd w11 B1 (u8s (layB lc)) := H.rd (i := 6) (n := m1) (c := d1) rfl
      have h0c : w11.cell? ⟨G, 1, none⟩ = some (.slice B1 m1 d1) := hk.cell 1
      go_wp2_with fail
      with_reducible refine (HQ1.out _ _ _ r0).mono ?_
      rintro e w12 ⟨A16, c16, sp2, rfl, o2, f2, _, b2⟩
      replace H := H.snoc b2 o2 f2 hsz
      simp only [List.cons_append, List.nil_append] at H
      replace hk := hk.bel b2
      replace b := b.trans (b2.mono hsz)
      replace hsz := Nat.le_trans hsz b2.size
      clear r0 o2 f2 b2 h0c
      have r0 : Rd w12 B0 (u8s (layB l)) := H.rd (i := 5) (n := m) (c := d0) rfl
      have h0c : w12.cell? ⟨G, 0, none⟩ = some (.slice B0 m d0) := hk.cell 0
      go_wp2_with fail
      with_reducible refine (HQ0.out _ _ _ r0).mono ?_
      rintro e w13 ⟨A18, c18, sp2, rfl, o2, f2, _, b2⟩
      replace H := H.snoc b2 o2 f2 hsz
      simp only [List.cons_append, List.nil_append] at H
      replace hk := hk.bel b2
      replace b := b.trans (b2.mono hsz)
      replace hsz := Nat.le_trans hsz b2.size
      clear r0 o2 f2 b2 h0c
      clear HQ0 HQ1
      go_wp2_with (go_at_call 14; (with_reducible refine (no_any _ _).mono ?_); rintro e w' ⟨rfl, rfl⟩)
      obtain ⟨fa, hf0⟩ : ∃ fa : Nat → UInt8, fa = fun q => bt l q ^^^ 255 := ⟨_, rfl⟩
      have hff : ∀ q, Go.bits .xor .u8 ((bt l q).toNat : Int) 255 = ((fa q).toNat : Int) := fun q => by rw [hf0]; exact u8_xor_b (bt l q) 255
      have HFF := Lib.hid hff
      clear hff hf0
      obtain ⟨spx, ox⟩ := H.own (i := 0) (A := A5) (n := n) (c := c5) (L := l) rfl
      have hlw := H.low (i := 0) (A := A5) (n := n) (c := c5) (L := l) rfl
      go_loopw [20] (fun ii wr => ∃ q : Nat, q ≤ n ∧ ii = .int .i64 q ∧ (∃ sp, Owx wr 5 1 (.slice A5 n c5) n (u8s (upd fa l q)) sp) ∧ Frm (fun k => (Value.slice A5 n c5).ownBlock = some k) w13 wr) (fun ii _ => n - (intI ii))
      case atStart => exact ⟨0, by omega, rfl, ⟨spx, by rw [upd_zero]; exact ox⟩, Frm.refl _ _⟩
      case round =>
        obtain ⟨q, hq, rfl, ⟨sp, o⟩, hf⟩ := hrel
        by_cases hlt : q < n
        · clear H hk ox
          obtain ⟨g, rfl, hc, hz, hput⟩ := o.put hlt
          rw [upd_bt _ _ _ (by rw [HL.out]; exact hlt)] at hc
          have hv := HFF.out q
          have o2 := hput (fa q)
          rw [upd_set _ _ _ (by rw [HL.out]; exact hlt)] at o2
          have f2 := hf.setCell (p := ⟨g, q, none⟩) (fun _ => rfl) (.int .u8 ((fa q).toNat : Int))
          generalize fa q = fq at *
          clear hput o hf
          go_wp2
          go_roundw
          case rel => exact ⟨q + 1, by omega, by go_num, ⟨sp, o2⟩, f2⟩
          case measure => simp [intI]; omega
        · obtain rfl : n = q := by omega

          obtain ⟨l2, hln⟩ : ∃ l2, l2 = upd fa l n := ⟨_, rfl⟩
          have hlen : l2.length = n := by rw [hln, upd_len _ _ _ (by rw [HL.out]; exact Nat.le_refl _), HL.out]
          rw [← hln] at o
          have HL2 := Lib.hid hlen
          replace hk := hk.frm hf (fun hq => own_other ox (by decide) _ _ hq hk)
          replace H := H.write (i := 0) rfl hf o
          simp only [List.set] at H
          replace b := below_frm b hsz hf hlw
          replace hsz := Nat.le_trans hsz hf.size
          clear hlen hln o hf ox hlw hlt HFF

          obtain ⟨w14, hwv⟩ : ∃ w14 : World, w14 = wr := ⟨_, rfl⟩
          subst hwv
          have hLx := fun A' c' wx hr' hT' => Lay_ok A' n m c' l2 wx HL2.out hr' (by omega) HMM.out hT'
          have hL2 : (layB l2).length = m := by rw [layB_len, HL2.out, HMM.out]
          have HLL2 := Lib.hid hL2
          have hq0 := fun A' c' wx hr' => Read_is A' m c' n (layB l2) l2 (-1) 0 wx hL2 hr' (by omega) (read_lay l2 (by rw [HL2.out]; omega)) HL2.out
          have HQ0 := Lib.hid hq0
          clear hL2 hq0
          have r0 : Rd w14 A5 (u8s l2) := H.rd (i := 0) (n := n) (c := c5) rfl
          go_wp2_with fail
          with_reducible refine (hLx _ _ _ r0 (HT.out.belowB b hB0)).mono ?_
          rintro e w15 ⟨A21, c21, sp2, rfl, o2, f2, b2⟩
          replace H := H.snoc b2 o2 f2 hsz
          simp only [List.cons_append, List.nil_append] at H
          replace hk := hk.bel b2
          replace b := b.trans (b2.mono hsz)
          replace hsz := Nat.le_trans hsz b2.size
          clear r0 o2 f2 b2
          have r0 : Rd w15 A21 (u8s (layB l2)) := H.rd (i := 10) (n := m) (c := c21) rfl

          go_wp2_with fail
          with_reducible refine (HQ0.out _ _ _ r0).mono ?_
          rintro e w16 ⟨A23, c23, sp2, rfl, o2, f2, _, b2⟩
          replace H := H.snoc b2 o2 f2 hsz
          simp only [List.cons_append, List.nil_append] at H
          replace hk := hk.bel b2
          replace b := b.trans (b2.mono hsz)
          replace hsz := Nat.le_trans hsz b2.size
          clear r0 o2 f2 b2
          go_wp2_with (go_at_call 14; (with_reducible refine (no_any _ _).mono ?_); rintro e w' ⟨rfl, rfl⟩)
          have ra : Rd w16 A23 (u8s l2) := H.rd (i := 11) (n := n) (c := c23) rfl
          have rb : Rd w16 A5 (u8s l2) := H.rd (i := 0) (n := n) (c := c5) rfl

          with_reducible refine (same_true A23 A5 n c23 c5 l2 _ HL2.out ra rb (by omega)).mono ?_
          rintro e w17 ⟨rfl, hq⟩
          have b2 := bel_drawn hq
          replace H := H.bel b2
          replace hk := hk.bel b2
          replace b := b.trans (b2.mono hsz)
          replace hsz := Nat.le_trans hsz b2.size
          clear ra rb hq b2
          go_wp2_with fail
          obtain ⟨fb, hf0⟩ : ∃ fb : Nat → UInt8, fb = fun q => bt lc q ^^^ 255 := ⟨_, rfl⟩
          have hff : ∀ q, Go.bits .xor .u8 ((bt lc q).toNat : Int) 255 = ((fb q).toNat : Int) := fun q => by rw [hf0]; exact u8_xor_b (bt lc q) 255
          have HFF := Lib.hid hff
          clear hff hf0
          obtain ⟨spx, ox⟩ := H.own (i := 1) (A := A6) (n := n1) (c := c6) (L := lc) rfl
          have hlw := H.low (i := 1) (A := A6) (n := n1) (c := c6) (L := lc) rfl
          go_loopw [26] (fun ii wr => ∃ q : Nat, q ≤ n1 ∧ ii = .int .i64 q ∧ (∃ sp, Owx wr 5 1 (.slice A6 n1 c6) n1 (u8s (upd fb lc q)) sp) ∧ Frm (fun k => (Value.slice A6 n1 c6).ownBlock = some k) w17 wr) (fun ii _ => n1 - (intI ii))
          case atStart => exact ⟨0, by omega, rfl, ⟨spx, by rw [upd_zero]; exact ox⟩, Frm.refl _ _⟩
          case round =>
            obtain ⟨q, hq, rfl, ⟨sp, o⟩, hf⟩ := hrel
            by_cases hlt : q < n1
            · clear H hk ox
              obtain ⟨g, rfl, hc, hz, hput⟩ := o.put hlt
              rw [upd_bt _ _ _ (by rw [HLC.out]; exact hlt)] at hc
              have hv := HFF.out q
              have o2 := hput (fb q)
              rw [upd_set _ _ _ (by rw [HLC.out]; exact hlt)] at o2
              have f2 := hf.setCell (p := ⟨g, q, none⟩) (fun _ => rfl) (.int .u8 ((fb q).toNat : Int))
              generalize fb q = fq at *
              clear hput o hf
              go_wp2
              go_roundw
              case rel => exact ⟨q + 1, by omega, by go_num, ⟨sp, o2⟩, f2⟩
              case measure => simp [intI]; omega
            · obtain rfl : n1 = q := by omega

              obtain ⟨l3, hln⟩ : ∃ l3, l3 = upd fb lc n1 := ⟨_, rfl⟩
              have hlen : l3.length = n1 := by rw [hln, upd_len _ _ _ (by rw [HLC.out]; exact Nat.le_refl _), HLC.out]
              rw [← hln] at o
              have HL3 := Lib.hid hlen
              replace hk := hk.frm hf (fun hq => own_other ox (by decide) _ _ hq hk)
              replace H := H.write (i := 1) rfl hf o
              simp only [List.set] at H
              replace b := below_frm b hsz hf hlw
              replace hsz := Nat.le_trans hsz hf.size
              clear hlen hln o hf ox hlw hlt HFF

              obtain ⟨w18, hwv⟩ : ∃ w18 : World, w18 = wr := ⟨_, rfl⟩
              subst hwv
              have h0c : w18.cell? ⟨G, 0, none⟩ = some (.slice B0 m d0) := hk.cell 0
              obtain ⟨spx, ox⟩ := H.own (i := 5) (A := B0) (n := m) (c := d0) (L := layB l) rfl
              obtain ⟨g0, hB0g, hg0, hfit0, o2, f2⟩ := ox.over (M := layB l2) (by omega) HLL2.out
              have hlw := H.low (i := 5) (A := B0) (n := m) (c := d0) (L := layB l) rfl
              have r0 : Rd w18 A21 (u8s (layB l2)) := H.rd (i := 10) (n := m) (c := c21) rfl
              obtain ⟨ad2, hA21, hsrc⟩ := r0 (by intro h; have := congrArg List.length h; rw [u8s_length, HLL2.out] at this; simp at this; omega)
              have hcs : (u8s (layB l2)).length = Nat.min m m := by rw [u8s_length, HLL2.out]; simp
              have HCS := Lib.hid hcs
              have HFIT := Lib.hid hfit0
              have HA := Lib.hid hA21
              have HB0 := Lib.hid hB0g
              clear r0 hcs hfit0 hA21 hB0g
              go_wp2_with (refine wpList_copy_own (o := ⟨some 185, _, _, _, _, _⟩) rfl (.tmp 183) (.tmp 184) 22 22 rfl 5 Tryd.underlying22 (by rfl) g0 0 m d0 ad2 m c21 (by rw [← HB0.out]; rfl) (by rw [← HA.out]; rfl) _ 5 hg0 (u8s (layB l2)) HCS.out hsrc HFIT.out (one_u8s _) ?_; generalize World.setRow w18 g0 _ = w19 at o2 f2 ⊢; replace hk := hk.frm f2 (fun hq => own_other ox (by decide) _ _ hq hk); replace H := H.write (i := 5) rfl f2 o2; simp only [List.set] at H; replace b := below_frm b hsz f2 hlw; replace hsz := Nat.le_trans hsz f2.size; clear o2 f2 ox hlw hg0 hsrc h0c HCS HFIT HA HB0; have h0c : w19.cell? ⟨G, 0, none⟩ = some (.slice B0 m d0) := hk.cell 0)
              have r0 : Rd w19 B0 (u8s (layB l2)) := H.rd (i := 5) (n := m) (c := d0) rfl


              with_reducible refine (HQ0.out _ _ _ r0).mono ?_
              rintro e w20 ⟨A27, c27, sp2, rfl, o2, f2, _, b2⟩
              replace H := H.snoc b2 o2 f2 hsz
              simp only [List.cons_append, List.nil_append] at H
              replace hk := hk.bel b2
              replace b := b.trans (b2.mono hsz)
              replace hsz := Nat.le_trans hsz b2.size
              clear r0 o2 f2 b2 h0c
              clear hLx HQ0
              go_wp2_with fail
              obtain ⟨spx, ox⟩ := H.own (i := 6) (A := B1) (n := m1) (c := d1) (L := layB lc) rfl
              have hlw := H.low (i := 6) (A := B1) (n := m1) (c := d1) (L := layB lc) rfl
              go_loopw [29] (fun ii wr => ∃ q : Nat, q ≤ m1 ∧ ii = .int .i64 q ∧ (∃ sp, Owx wr 5 1 (.slice B1 m1 d1) m1 (u8s (upd c60 (layB lc) q)) sp) ∧ Frm (fun k => (Value.slice B1 m1 d1).ownBlock = some k) w20 wr) (fun ii _ => m1 - (intI ii))
              case atStart => exact ⟨0, by omega, rfl, ⟨spx, by rw [upd_zero]; exact ox⟩, Frm.refl _ _⟩
              case round =>
                obtain ⟨q, hq, rfl, ⟨sp, o⟩, hf⟩ := hrel
                replace hk := hk.frm hf (fun hq => own_other ox (by decide) _ _ hq hk)
                have h0c : wr.cell? ⟨G, 1, none⟩ = some (.slice B1 m1 d1) := hk.cell 1
                by_cases hlt : q < m1
                · clear H hk ox
                  obtain ⟨g, rfl, hc, hz, hput⟩ := o.put hlt
                  have o2 := hput (c60 q)
                  rw [upd_set _ _ _ (by rw [HLL1.out]; exact hlt)] at o2
                  have f2 := hf.setCell (p := ⟨g, q, none⟩) (fun _ => rfl) (.int .u8 ((c60 q).toNat : Int))
                  rw [show (((c60 q).toNat : Nat) : Int) = 60 from rfl] at o2 f2
                  clear hput o hf
                  go_wp2
                  go_roundw
                  case rel => exact ⟨q + 1, by omega, by go_num, ⟨sp, o2⟩, f2⟩
                  case measure => simp [intI]; omega
                · obtain rfl : m1 = q := by omega
                  obtain ⟨l4, hl4⟩ : ∃ l4, l4 = upd c60 (layB lc) m1 := ⟨_, rfl⟩
                  rw [← hl4] at o
                  replace H := H.write (i := 6) rfl hf o
                  simp only [List.set] at H
                  replace b := below_frm b hsz hf hlw
                  replace hsz := Nat.le_trans hsz hf.size
                  clear hl4 o hf ox hlw hlt
                  obtain ⟨w21, hwv⟩ : ∃ w21 : World, w21 = wr := ⟨_, rfl⟩
                  subst hwv
                  go_wp2_with (go_at_call 14; (with_reducible refine (no_any _ _).mono ?_); rintro e w' ⟨rfl, rfl⟩)
                  have ra : Rd w21 A27 (u8s l2) := H.rd (i := 12) (n := n) (c := c27) rfl
                  have rb : Rd w21 A5 (u8s l2) := H.rd (i := 0) (n := n) (c := c5) rfl

                  with_reducible refine (same_true A27 A5 n c27 c5 l2 _ HL2.out ra rb (by omega)).mono ?_
                  rintro e w22 ⟨rfl, hq⟩
                  have b2 := bel_drawn hq
                  replace H := H.bel b2
                  replace b := b.trans (b2.mono hsz)
                  replace hsz := Nat.le_trans hsz b2.size
                  clear ra rb hq b2
                  have ra : Rd w22 A14 (u8s l) := H.rd (i := 7) (n := n) (c := c14) rfl
                  have rb : Rd w22 A (u8s l) := HRK.out _ b
                  go_wp2_with fail
                  with_reducible refine (same_true A14 A n c14 cap l _ HL.out ra rb (by omega)).mono ?_
                  rintro e w23 ⟨rfl, hq⟩
                  have b2 := bel_drawn hq
                  replace H := H.bel b2
                  replace b := b.trans (b2.mono hsz)
                  replace hsz := Nat.le_trans hsz b2.size
                  clear ra rb hq b2
                  have ra : Rd w23 A16 (u8s lc) := H.rd (i := 8) (n := n1) (c := c16) rfl
                  have rb : Rd w23 A1 (u8s lc) := HRK1.out _ b
                  go_wp2_with fail
                  with_reducible refine (same_true A16 A1 n1 c16 c1 lc _ HLC.out ra rb (by omega)).mono ?_
                  rintro e w24 ⟨rfl, hq⟩
                  have b2 := bel_drawn hq
                  replace H := H.bel b2
                  replace b := b.trans (b2.mono hsz)
                  replace hsz := Nat.le_trans hsz b2.size
                  clear ra rb hq b2
                  have ra : Rd w24 A18 (u8s l) := H.rd (i := 9) (n := n) (c := c18) rfl
                  have rb : Rd w24 A (u8s l) := HRK.out _ b
                  go_wp2_with fail
                  with_reducible refine (same_true A18 A n c18 cap l _ HL.out ra rb (by omega)).mono ?_
                  rintro e w25 ⟨rfl, hq⟩
                  have b2 := bel_drawn hq
                  replace H := H.bel b2
                  replace b := b.trans (b2.mono hsz)
                  replace hsz := Nat.le_trans hsz b2.size
                  clear ra rb hq b2
                  have ra : Rd w25 A7 (u8s (layB l)) := H.rd (i := 2) (n := m) (c := c7) rfl
                  have rb : Rd w25 A11 (u8s (layB l)) := H.rd (i := 4) (n := m) (c := c11) rfl
                  go_wp2_with fail
                  with_reducible refine (same_true A7 A11 m c7 c11 (layB l) _ HLL.out ra rb (by omega)).mono ?_
                  rintro e w26 ⟨rfl, hq⟩
                  have b2 := bel_drawn hq
                  replace H := H.bel b2
                  replace b := b.trans (b2.mono hsz)
                  replace hsz := Nat.le_trans hsz b2.size
                  clear ra rb hq b2
                  obtain ⟨hdis, hrows⟩ := H.picked [2, 3, 4, 7, 8, 9, 10, 11, 12] (by decide) (by intro c hc; simp only [List.mem_cons, List.not_mem_nil, or_false] at hc; simp only [List.length_cons, List.length_nil]; omega)
                  have hall : ∀ r ∈ Hold.pick [((⟨A5, n, c5⟩ : Row), l2), (⟨A6, n1, c6⟩, l3), (⟨A7, m, c7⟩, layB l), (⟨A9, m1, c9⟩, layB lc), (⟨A11, m, c11⟩, layB l), (⟨B0, m, d0⟩, layB l2), (⟨B1, m1, d1⟩, l4), (⟨A14, n, c14⟩, l), (⟨A16, n1, c16⟩, lc), (⟨A18, n, c18⟩, l), (⟨A21, m, c21⟩, layB l2), (⟨A23, n, c23⟩, l2), (⟨A27, n, c27⟩, l2)] [2, 3, 4, 7, 8, 9, 10, 11, 12], r.n ≤ 140737488355000 := by
                    intro r hr'
                    simp only [Hold.pick, List.map_cons, List.map_nil, List.mem_cons, List.not_mem_nil, or_false] at hr'
                    rcases hr' with rfl | rfl | rfl | rfl | rfl | rfl | rfl | rfl | rfl
                    all_goals (show (_ : Nat) ≤ _; simp only [List.getD_cons_succ, List.getD_cons_zero]; omega)
                  have hu := unmet_any w26.heap.size 9 9 (Hold.pick [((⟨A5, n, c5⟩ : Row), l2), (⟨A6, n1, c6⟩, l3), (⟨A7, m, c7⟩, layB l), (⟨A9, m1, c9⟩, layB lc), (⟨A11, m, c11⟩, layB l), (⟨B0, m, d0⟩, layB l2), (⟨B1, m1, d1⟩, l4), (⟨A14, n, c14⟩, l), (⟨A16, n1, c16⟩, lc), (⟨A18, n, c18⟩, l), (⟨A21, m, c21⟩, layB l2), (⟨A23, n, c23⟩, l2), (⟨A27, n, c27⟩, l2)] [2, 3, 4, 7, 8, 9, 10, 11, 12]) [] (w26.alloc (.cells #[.slice A7 m c7, .slice A9 m1 c9, .slice A11 m c11, .slice A14 n c14, .slice A16 n1 c16, .slice A18 n c18, .slice A21 m c21, .slice A23 n c23, .slice A27 n c27] 22)) rfl (Blk.new w26 22 [.slice A7 m c7, .slice A9 m1 c9, .slice A11 m c11, .slice A14 n c14, .slice A16 n1 c16, .slice A18 n c18, .slice A21 m c21, .slice A23 n c23, .slice A27 n c27]) hdis (by decide) (fun j r hj => ⟨by obtain ⟨⟨xs, sp, o⟩, _⟩ := hrows j r hj; exact ⟨xs, sp, o.alloc _⟩, hall r (List.mem_of_getElem? hj)⟩)
                  have hlo : ∀ q, Of (Hold.pick [((⟨A5, n, c5⟩ : Row), l2), (⟨A6, n1, c6⟩, l3), (⟨A7, m, c7⟩, layB l), (⟨A9, m1, c9⟩, layB lc), (⟨A11, m, c11⟩, layB l), (⟨B0, m, d0⟩, layB l2), (⟨B1, m1, d1⟩, l4), (⟨A14, n, c14⟩, l), (⟨A16, n1, c16⟩, lc), (⟨A18, n, c18⟩, l), (⟨A21, m, c21⟩, layB l2), (⟨A23, n, c23⟩, l2), (⟨A27, n, c27⟩, l2)] [2, 3, 4, 7, 8, 9, 10, 11, 12]) q → B ≤ q := fun q ⟨j, r, hj, hq⟩ => (hrows j r hj).2 q hq
                  have HLO := Lib.hid hlo
                  have HU := Lib.hid hu
                  clear hlo hu hall hrows hdis H
                  go_wp2_with fail
                  have b0 : Below B w (w26.alloc (.cells #[.slice A7 m c7, .slice A9 m1 c9, .slice A11 m c11, .slice A14 n c14, .slice A16 n1 c16, .slice A18 n c18, .slice A21 m c21, .slice A23 n c23, .slice A27 n c27] 22)) := b.alloc hsz _
                  with_reducible refine HU.out.mono ?_
                  rintro e w27 ⟨rfl, hf⟩
                  have b2 := below_frm b0 (by simp; omega) hf HLO.out
                  clear hf HU HLO b0 b
                  go_wp2
                  go_ret
                  exact ⟨rfl, by rw [← HB.out]; exact b2⟩
end Go.Proofs.YthmdfobkdaocaaaDoor
