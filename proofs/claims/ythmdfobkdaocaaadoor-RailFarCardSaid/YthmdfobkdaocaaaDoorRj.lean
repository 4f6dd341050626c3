/- The law RailFar: its walk. -/
import Derived.Test.YthmdfobkdaocaaaDoorRa
import Derived.Test.YthmdfobkdaocaaaDoorRf
namespace Go.Proofs.YthmdfobkdaocaaaDoor
open Go.RowKit
set_option linter.unusedVariables false
set_option linter.unusedSimpArgs false
theorem sl_one (ad : Addr) (m c q : Nat) (h : q + 1 ≤ c) (w : World) : (Instr.slice 22 (.slice (some ad) m c) (some (.int .i64 (q : Int))) (some (.int .i64 ((q : Int) + 1))) none).run Tryd.prog w = .ok (.slice (some (ad.add q)) 1 (c - q)) w := by
  rw [run_slice_lh w _ _ _ _ Tryd.underlying22 .i64 .i64 (q : Int) ((q : Int) + 1) (by omega) (by omega) (by omega), show (sizeOf (Tryd.prog.elem 22)).run Tryd.prog w = .ok 1 w from by kernel_rfl]
  have h1 : ¬ c = q := by omega
  have h2 : ((q : Int) + 1).toNat - q = 1 := by omega
  simp [Result.andThen, sliced, h1, h2]
theorem rd_cell {w : World} {a : Addr} {u : Value} (h : w.cell? a = some u) : Rd w (some a) [u] := fun _ => ⟨a, rfl, fun j v hv => by
  match j, hv with
  | 0, hv => cases hv; rw [addr_zero]; exact h⟩
set_option maxRecDepth 100000 in
set_option maxHeartbeats 3200000 in
theorem far_walk (w : World) (A : Option Addr) (n cap : Nat) (l : List UInt8) (hl : l.length = n) (hr : Rd w A (u8s l)) (hm : n ≤ 140737488351232) (A1 : Option Addr) (n1 c1 : Nat) (lc : List UInt8) (hlc : lc.length = n1) (hr1 : Rd w A1 (u8s lc)) (hm1 : n1 ≤ 140737488351232) (hT : SpT w) :
    Calls Tryd.prog 7 #[.slice A n cap, .slice A1 n1 c1] w fun e w' => e = .returned (.bool true) ∧ Below w.heap.size w w' := by
  have HL := Lib.hid hl
  have HLC := Lib.hid hlc
  have hh := heads_any w hT
  have HT := Lib.hid hT
  have hT0 := hT.pos
  clear hl hT hlc
  obtain ⟨B, hB⟩ : ∃ B, B = w.heap.size := ⟨_, rfl⟩
  have HB := Lib.hid hB
  have hB0 : 0 < B := by omega
  clear hB hT0
  go_enter Tryd.func7, Tryd.ntmps7
  go_wp2_with fail
  with_reducible refine hh.mono ?_
  rintro e w1 ⟨rfl, b1⟩
  replace hr := hr.below b1
  replace hr1 := hr1.below b1
  rw [← HB.out] at b1
  clear hh
  go_upto_block 0 with (fail)
  go_cut [5, 6] (fun v i wx => ∃ sp, Owx wx 5 1 v n (u8s (gen (mk lc 0) n)) sp ∧ Below B w wx ∧ Below w1.heap.size w1 wx)
  case first =>
    go_wp2_with fail
    go_loopw [5, 6] (fun v i wr => ∃ k : Nat, k ≤ n ∧ i = .int .i64 k ∧ (∃ sp, Owx wr 5 1 v k (u8s (gen (mk lc 0) k)) sp) ∧ (∀ q, v.ownBlock = some q → w1.heap.size ≤ q) ∧ Below w1.heap.size w1 wr) (fun _ i _ => n - (intI i))
    case atStart => exact ⟨0, by omega, rfl, ⟨[], .inl ⟨rfl, rfl, rfl, rfl⟩⟩, (fun q hq => by cases hq), Below.refl _ _⟩
    case round =>
      obtain ⟨k, hk, rfl, ⟨sp, ho⟩, hfr, hbl⟩ := hrel
      have hsz := hbl.size
      by_cases hlt : k < n
      · by_cases hk1 : k < n1
        · have r4 := hr1.below hbl
          obtain ⟨ad, rfl, hc⟩ := r4.at_ (k := k) (u8s_bt lc k (by have := HLC.out; omega))
          have hmk : mk lc 0 k = bt lc k := by unfold mk; rw [if_pos (by have := HLC.out; omega)]
          have HMK := Lib.hid hmk
          clear hmk
          go_wp2_with (at_builtin; refine wpList_appx _ rfl (.tmp 29) (.tmp 31) 22 rfl 5 _ 1 1 Tryd.underlying22 info5 rfl (by decide) rfl (ho.alloc _) rfl rfl (rd_one _ _ _) (one_int _ _) (by unfold maxLen; omega) (by omega) ?_; intro v1 w3 sp3 ho3 hy3)
          have f1 := fresh_app (B := w1.heap.size) (by simp; omega) hfr hy3.at_
          have b3 : Below w1.heap.size w1 w3 := below_frm (hbl.alloc hsz _) (by simp; omega) hy3.frm (fun q hq => hfr q hq)
          clear ho hy3 hfr hbl
          go_roundw
          case rel => exact ⟨k + 1, by omega, by go_num, ⟨sp3, by rw [gen_succ, u8s_append, HMK.out]; exact ho3⟩, f1, b3⟩
          case measure => simp [intI]; omega
        · have hmk : mk lc 0 k = 0 := by unfold mk; rw [if_neg (by have := HLC.out; omega)]
          have HMK := Lib.hid hmk
          clear hmk
          go_wp2_with (at_builtin; refine wpList_appx _ rfl (.tmp 29) (.tmp 31) 22 rfl 5 _ 1 1 Tryd.underlying22 info5 rfl (by decide) rfl (ho.alloc _) rfl rfl (rd_one _ _ _) (one_int _ _) (by unfold maxLen; omega) (by omega) ?_; intro v1 w3 sp3 ho3 hy3)
          have f1 := fresh_app (B := w1.heap.size) (by simp; omega) hfr hy3.at_
          have b3 : Below w1.heap.size w1 w3 := below_frm (hbl.alloc hsz _) (by simp; omega) hy3.frm (fun q hq => hfr q hq)
          clear ho hy3 hfr hbl
          go_roundw
          case rel => exact ⟨k + 1, by omega, by go_num, ⟨sp3, by rw [gen_succ, u8s_append, HMK.out]; exact ho3⟩, f1, b3⟩
          case measure => simp [intI]; omega
      · obtain rfl : k = n := by omega
        go_wp2
        go_meet
        exact ⟨sp, ho, b1.trans (hbl.mono (by rw [HB.out]; exact (HB.out ▸ b1).size)), hbl⟩
  case rest =>
    generalize wc = w2 at *
    obtain ⟨sp2, o2, b2, b12⟩ := hcut
    obtain ⟨A2, c2, rfl, hc2, r2⟩ := o2.rd
    replace hr := hr.below b12
    have hT2 := HT.out.belowB b2 hB0
    have hsz2 : B ≤ w2.heap.size := by rw [HB.out] at b2 ⊢; exact b2.size
    have hdl : (gen (mk lc 0) n).length = n := gen_len _ _
    have HD := Lib.hid hdl
    clear b12 o2 hr1 b1 hdl
    generalize gen (mk lc 0) n = d at *
    by_cases hbig : 4095 < n
    · have hb2 : (4095 : Int) < (n : Int) := by omega
      have hLy := fun wx hr' hT' => Lay_no A n cap l wx HL.out hr' hbig hm hT'
      have hLz := fun wx hr' hT' => Lay_no A2 n c2 d wx HD.out hr' hbig hm hT'
      go_wp2_with fail
      with_reducible refine (hLy _ hr hT2).mono ?_
      rintro e w3 ⟨A3, c3, rfl, b3⟩
      replace b2 := b2.trans (b3.mono hsz2)
      go_wp2_with fail
      with_reducible refine (hLz _ (r2.below b3) (HT.out.belowB b2 hB0)).mono ?_
      rintro e w4 ⟨A4, c4, rfl, b4⟩
      replace b2 := b2.trans (b4.mono (Nat.le_trans hsz2 b3.size))
      clear b3 b4 hLy hLz
      go_wp2_with (go_at_call 14; (with_reducible refine (no_any _ _).mono ?_); rintro e w' ⟨rfl, rfl⟩)
      go_ret
      exact ⟨rfl, by rw [← HB.out]; exact b2⟩
    · have hb2 : ¬ (4095 : Int) < (n : Int) := by omega
      obtain ⟨m, hmm⟩ : ∃ m, m = 2 * n + 2 := ⟨_, rfl⟩
      have hLy := fun wx hr' hT' => Lay_ok A n m cap l wx HL.out hr' (by omega) hmm hT'
      have hLz := fun wx hr' hT' => Lay_ok A2 n m c2 d wx HD.out hr' (by omega) hmm hT'
      have hl1 : (layB l).length = m := by rw [layB_len, HL.out, hmm]
      have hl2 : (layB d).length = m := by rw [layB_len, HD.out, hmm]
      have hm8 : m ≤ 8192 := by omega
      have hfour : ∀ i, i < m → apTo [bt (layB l) i] [0] 8 = 4 := fun i hi => lay_four l i (by rw [HL.out]; omega)
      have hfar : l ≠ d → 4 ≤ apTo (layB l) (layB d) (8 * m) := far_four l d m (by rw [HL.out, HD.out]) (by rw [HL.out, hmm])
      have hap8 := apTo_le (layB l) (layB d) (8 * m)
      have hsame : l = d → layB l = layB d := fun h => by rw [h]
      have H1 := Lib.hid hl1
      have H2 := Lib.hid hl2
      have H4 := Lib.hid hfour
      have HF := Lib.hid hfar
      have HS := Lib.hid hsame
      clear hl1 hl2 hfour hfar hsame hmm
      generalize layB l = L at *
      generalize layB d = D at *
      go_wp2_with fail
      with_reducible refine (hLy _ hr hT2).mono ?_
      rintro e w3 ⟨A3, c3, sp3, rfl, o3, _, b3⟩
      replace b2 := b2.trans (b3.mono hsz2)
      replace hr := hr.below b3
      replace r2 := r2.below b3
      replace hsz2 := Nat.le_trans hsz2 b3.size
      obtain ⟨_, _, he3, hc3, r3⟩ := o3.rd
      cases he3
      clear hT2 b3
      go_wp2_with fail
      with_reducible refine (hLz _ r2 (HT.out.belowB b2 hB0)).mono ?_
      rintro e w4 ⟨A4, c4, sp4, rfl, o4, _, b4⟩
      replace b2 := b2.trans (b4.mono hsz2)
      replace hr := hr.below b4
      replace r2 := r2.below b4
      replace r3 := r3.below b4
      replace hsz2 := Nat.le_trans hsz2 b4.size
      obtain ⟨_, _, he4, hc4, r4⟩ := o4.rd
      cases he4
      clear b4 hLy hLz o3 o4
      go_wp2_with (go_at_call 14; (with_reducible refine (no_any _ _).mono ?_); rintro e w' ⟨rfl, rfl⟩)
      go_loopw [12] (fun i wr => ∃ k : Nat, k ≤ m ∧ i = .int .i64 k ∧ Below w4.heap.size w4 wr) (fun i _ => m - (intI i))
      case atStart => exact ⟨0, by omega, rfl, Below.refl _ _⟩
      case round =>
        obtain ⟨k, hk, rfl, hf⟩ := hrel
        by_cases hlt : k < m
        · have r5 := r3.below hf
          obtain ⟨ad, rfl, hc0⟩ := r5.at_ (k := k) (u8s_bt L k (by have := H1.out; omega))
          have hsl := sl_one ad m c3 k (by omega) wr
          have hfo := H4.out k hlt
          have hap := fun (wx : World) (ha : Rd wx (some (ad.add k)) [.int .u8 ((bt L k).toNat : Int)]) (Az : Option Addr) (cz : Nat) (hz : Rd wx Az [.int .u8 0]) => apart_any (some (ad.add k)) Az 1 1 (c3 - k) cz [bt L k] [0] wx rfl rfl (by exact ha) (by exact hz) (by decide) 1 rfl
          rw [show 8 * 1 = 8 from rfl, hfo] at hap
          have hrc : Rd wr (some (ad.add k)) [.int .u8 ((bt L k).toNat : Int)] := rd_cell hc0
          clear hfo
          go_wp2_with fail
          with_reducible refine (hap _ (hrc.alloc _) _ _ (rd_one _ _ _)).mono ?_
          rintro e w5 ⟨rfl, hq⟩
          have b5 : Below w4.heap.size w4 w5 := (hf.alloc hf.size _).trans ((bel_drawn hq).mono (by have := hf.size; simp; omega))
          clear hq hap hrc hsl
          go_wp2
          go_roundw
          case rel => exact ⟨k + 1, by omega, by go_num, b5⟩
          case measure => simp [intI]; omega
        · obtain rfl : k = m := by omega
          replace b2 := b2.trans (hf.mono hsz2)
          replace hr := hr.below hf
          replace r2 := r2.below hf
          replace r3 := r3.below hf
          replace r4 := r4.below hf
          have hsz5 : B ≤ wr.heap.size := Nat.le_trans hsz2 hf.size
          clear hf
          by_cases hld : l = d
          · have hLD := HS.out hld
            subst hld
            subst hLD
            go_wp2_with fail
            with_reducible refine (same_true A A2 n cap c2 l _ HL.out hr r2 (by omega)).mono ?_
            rintro e w6 ⟨rfl, hq⟩
            have b6 := bel_drawn hq
            replace r3 := r3.below b6
            replace r4 := r4.below b6
            replace b2 := b2.trans (b6.mono hsz5)
            replace hsz5 := Nat.le_trans hsz5 b6.size
            clear hq b6
            go_wp2_with fail
            with_reducible refine (same_true A3 A4 k c3 c4 L _ H1.out r3 r4 (by omega)).mono ?_
            rintro e w7 ⟨rfl, hq⟩
            have b6 := bel_drawn hq
            replace b2 := b2.trans (b6.mono hsz5)
            go_wp2
            go_ret
            exact ⟨rfl, by rw [← HB.out]; exact b2⟩
          · have h4 := HF.out hld
            go_wp2_with fail
            with_reducible refine (same_ne A A2 n n cap c2 l d _ HL.out HD.out hr r2 (by omega) hld).mono ?_
            rintro e w6 ⟨rfl, hq⟩
            have b6 := bel_drawn hq
            replace r3 := r3.below b6
            replace r4 := r4.below b6
            replace b2 := b2.trans (b6.mono hsz5)
            replace hsz5 := Nat.le_trans hsz5 b6.size
            clear hq b6 hld
            go_wp2_with fail
            with_reducible refine (apart_any A3 A4 k k c3 c4 L D _ H1.out H2.out r3 r4 (by omega) k (by omega)).mono ?_
            rintro e w7 ⟨rfl, hq⟩
            have b6 := bel_drawn hq
            replace b2 := b2.trans (b6.mono hsz5)
            have h4i : (4 : Int) ≤ ((apTo L D (8 * k) : Nat) : Int) := by omega
            generalize apTo L D (8 * k) = ap at *
            clear hq
            go_wp2
            go_ret
            exact ⟨rfl, by rw [← HB.out]; exact b2⟩
end Go.Proofs.YthmdfobkdaocaaaDoor
