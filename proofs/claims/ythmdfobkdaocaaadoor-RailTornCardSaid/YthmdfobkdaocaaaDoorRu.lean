/- The law RailTorn: its walk. -/
import Derived.Test.YthmdfobkdaocaaaDoorRa
import Derived.Test.YthmdfobkdaocaaaDoorRv
namespace Go.Proofs.YthmdfobkdaocaaaDoor
open Go.RowKit
set_option linter.unusedVariables false
set_option linter.unusedSimpArgs false
set_option maxRecDepth 100000 in
set_option maxHeartbeats 6400000 in
theorem torn_walk (w : World) (A : Option Addr) (n cap : Nat) (l : List UInt8) (hl : l.length = n) (hr : Rd w A (u8s l)) (hm : n ≤ 140737488351232) (A1 : Option Addr) (n1 c1 : Nat) (lm : List UInt8) (hlm : lm.length = n1) (hr1 : Rd w A1 (u8s lm)) (hm1 : n1 ≤ 140737488351232) (up : Bool) (hT : SpT w) :
    Calls Tryd.prog 5 #[.slice A n cap, .slice A1 n1 c1, .bool up] w fun e w' => e = .returned (.bool true) ∧ Below w.heap.size w w' := by
  have HL := Lib.hid hl
  have HLM := Lib.hid hlm
  have hh := heads_any w hT
  have HT := Lib.hid hT
  have hT0 := hT.pos
  clear hl hT hlm
  have hrw := hr
  have hrw1 := hr1
  by_cases hbig : 4095 < n
  · have hb2 : (4095 : Int) < (n : Int) := by omega
    have hLy := fun wx hr' hT' => Lay_no A n cap l wx HL.out hr' hbig hm hT'
    go_enter Tryd.func5, Tryd.ntmps5
    go_wp2_with fail
    with_reducible refine hh.mono ?_
    rintro e w1 ⟨rfl, b1⟩
    go_wp2_with fail
    with_reducible refine (hLy _ (hr.below b1) (HT.out.belowB b1 hT0)).mono ?_
    rintro e w2 ⟨A2, c2, rfl, b2⟩
    replace b1 := b1.trans (b2.mono b1.size)
    clear b2 hLy hh
    go_wp2_with (go_at_call 14; (with_reducible refine (no_any _ _).mono ?_); rintro e w' ⟨rfl, rfl⟩)
    go_ret
    exact ⟨rfl, b1⟩
  · have hb2 : ¬ (4095 : Int) < (n : Int) := by omega
    obtain ⟨m, hmm⟩ : ∃ m, m = 2 * n + 2 := ⟨_, rfl⟩
    have hm8 : m ≤ 8192 := by omega
    have hLy := fun wx hr' hT' => Lay_ok A n m cap l wx HL.out hr' (by omega) hmm hT'
    have hL : (layB l).length = m := by rw [layB_len, HL.out, hmm]
    have htr := torn_read (l := l) (T := tornR up (layB l) lm) (up := up) (by rw [HL.out]; omega) (by rw [tornR_len, layB_len]) (fun N hN => torn_bits up (layB l) lm N (by rw [layB_len]; exact hN))
    rw [HL.out, show 8 * (2 * n + 2) = 8 * m by omega] at htr
    have HLL := Lib.hid hL
    have HTR := Lib.hid htr
    clear hL hmm htr
    obtain ⟨L, hLe⟩ : ∃ L, L = layB l := ⟨_, rfl⟩
    rw [← hLe] at hLy HLL HTR
    clear hLe
    go_enter Tryd.func5, Tryd.ntmps5
    go_wp2_with fail
    with_reducible refine hh.mono ?_
    rintro e w1 ⟨rfl, b1⟩
    replace hr := hr.below b1
    replace hr1 := hr1.below b1
    clear hh
    go_wp2_with fail
    with_reducible refine (hLy _ hr (HT.out.belowB b1 hT0)).mono ?_
    rintro e w2 ⟨A2, c2, sp2, rfl, o2, f2, b2⟩
    have hs1 := b1.size
    replace hr := hr.below b2
    replace hr1 := hr1.below b2
    replace b1 := b1.trans (b2.mono b1.size)
    have hA2 : ∀ q, (Value.slice A2 m c2).ownBlock = some q → w.heap.size ≤ q := fun q hq => by have := f2 q hq; omega
    clear b2 hLy f2
    go_wp2
    go_loopw [9, 10, 11] (fun c o i wr => ∃ k : Nat, k ≤ m ∧ i = .int .i64 k ∧ c = .int .i64 ((apTo L (tornR up L lm) (8 * k) : Nat) : Int) ∧ o = .int .i64 (laN L (tornR up L lm) (8 * k)) ∧ Owx wr 5 1 (.slice A2 m c2) m (u8s (upd (tornB up L lm) L k)) sp2 ∧ Frm (fun q => (Value.slice A2 m c2).ownBlock = some q) w2 wr) (fun _ _ i _ => m - (intI i))
    case atStart => exact ⟨0, by omega, rfl, rfl, rfl, by rw [upd_zero]; exact o2, Frm.refl _ _⟩
    case round =>
      clear o2
      obtain ⟨k, hk, rfl, rfl, rfl, ho, hf⟩ := hrel
      by_cases hlt : k < m
      · have hdk : decide ((k : Int) < (m : Int)) = true := by simp; omega
        obtain ⟨g, rfl, hc0, hz, hput⟩ := ho.put hlt
        have hkl : k < L.length := by have := HLL.out; omega
        rw [upd_bt _ _ _ hkl] at hc0
        obtain ⟨tb, htb⟩ : ∃ tb, tb = tornB up L lm k := ⟨_, rfl⟩
        have hnew := hput tb
        rw [htb, upd_set _ _ _ hkl, ← htb] at hnew
        have hfn := hf.setCell (p := ⟨g, k, none⟩) (fun _ => rfl) (.int .u8 (tb.toNat : Int))
        have hrk : Rd wr A1 (u8s lm) := hr1.frm2 hrw1 hf hA2
        have hTk : bt (tornR up L lm) k = tb := by unfold tornR; rw [bt_gen _ _ _ hkl, htb]
        have HTK := Lib.hid hTk
        have hgv : (wr.setCell ⟨g, k, none⟩ (.int .u8 (tb.toNat : Int))).cell? ⟨g, k, none⟩ = some (.int .u8 (tb.toNat : Int)) := by
          obtain ⟨g', hg', hcc, _, _⟩ := hnew.put hlt
          cases hg'
          rw [show bt (upd (tornB up L lm) L (k + 1)) k = tb by unfold upd bt; rw [List.getD_eq_getElem?_getD, List.getElem?_append_left (by rw [gen_len]; omega)]; have := bt_gen (tornB up L lm) (k + 1) k (by omega); unfold bt at this; rw [List.getD_eq_getElem?_getD] at this; rw [this, htb]] at hcc
          exact hcc
        clear hput ho hf hTk
        by_cases hk1 : k < n1
        · have hmk : mk lm 0 k = bt lm k := by unfold mk; rw [if_pos (by have := HLM.out; omega)]
          obtain ⟨ad, rfl, hc1⟩ := hrk.at_ (k := k) (u8s_bt lm k (by have := HLM.out; omega))
          clear hrk
          cases up with
          | true =>
            have hval : Go.bits .or .u8 ((bt L k).toNat : Int) (((bt lm k).toNat : Int)) = (tb.toNat : Int) := by
              rw [htb]; unfold tornB; simp only [if_true, riseB]; rw [hmk]; exact u8_or_b _ _
            clear htb hmk
            go_wp2
            clear hval hc0 hz hdk
            obtain ⟨ws, hws⟩ : ∃ ws, ws = wr.setCell ⟨g, k, none⟩ (.int .u8 (tb.toNat : Int)) := ⟨_, rfl⟩
            rw [← hws] at hnew hfn hgv ⊢
            clear hws
            go_loopw [9, 10, 14] (fun c o i wx => ∃ j : Nat, j ≤ 8 ∧ i = .int .i64 j ∧ c = .int .i64 ((apTo L (tornR true L lm) (8 * k + j) : Nat) : Int) ∧ o = .int .i64 (laN L (tornR true L lm) (8 * k + j)) ∧ wx = ws) (fun _ _ i _ => 8 - (intI i))
            case atStart => exact ⟨0, by omega, rfl, rfl, rfl, rfl⟩
            case round =>
              obtain ⟨j, hj, rfl, rfl, rfl, rfl⟩ := hrel
              by_cases hlt2 : j < 8
              · obtain ⟨x, hx⟩ : ∃ x, x = bt L k ^^^ tb := ⟨_, rfl⟩
                obtain ⟨v, hv⟩ : ∃ v, v = x.toNat / 2 ^ j % 2 := ⟨_, rfl⟩
                have hxr : Go.bits .xor .u8 ((bt L k).toNat : Int) (tb.toNat : Int) = (x.toNat : Int) := by rw [hx]; exact u8_xor_b _ _
                have hxa : Go.bits .and .u8 ((x.toNat : Int) / 2 ^ j) 1 = (v : Int) := by rw [hv]; exact u8_and1 x j
                have hap : apB L (tornR true L lm) (8 * k + j) = v := by
                  unfold apB
                  rw [show (8 * k + j) / 8 = k by omega, show (8 * k + j) % 8 = j by omega, HTK.out, ← hx, hv]
                have hst : apTo L (tornR true L lm) (8 * k + (j + 1)) = apTo L (tornR true L lm) (8 * k + j) + v := by
                  rw [show 8 * k + (j + 1) = 8 * k + j + 1 from rfl, apTo, hap]
                have hsl : laN L (tornR true L lm) (8 * k + (j + 1)) = if v = 1 then (((8 * k + j) / 2 : Nat) : Int) else laN L (tornR true L lm) (8 * k + j) := by
                  rw [show 8 * k + (j + 1) = 8 * k + j + 1 from rfl, laN, hap]
                have hle := apTo_le L (tornR true L lm) (8 * k + j)
                have hv2 : v < 2 := by omega
                have HST := Lib.hid hst
                have HSL := Lib.hid hsl
                clear hx hv hst hap hsl
                by_cases hv1 : v = 1
                · have hve : ((v : Nat) : Int) = 1 := by omega
                  rw [hv1] at HST
                  rw [if_pos hv1] at HSL
                  clear hv1
                  go_wp2
                  go_roundw
                  case rel => exact ⟨j + 1, by omega, by go_num, by rw [HST.out]; go_num, by rw [HSL.out]; congr 1; omega, (by first | rfl | trivial)⟩
                  case measure => simp [intI]; omega
                · have hve : ¬ ((v : Nat) : Int) = 1 := by omega
                  rw [show v = 0 by omega] at HST
                  rw [if_neg hv1] at HSL
                  clear hv1
                  go_wp2
                  go_roundw
                  case rel => exact ⟨j + 1, by omega, by go_num, by rw [HST.out]; rfl, by rw [HSL.out], (by first | rfl | trivial)⟩
                  case measure => simp [intI]; omega
              · obtain rfl : j = 8 := by omega
                go_wp2
                go_roundw
                case rel => exact ⟨k + 1, by omega, by go_num, rfl, rfl, hnew, hfn⟩
                case measure => simp [intI]; omega
          | false =>
            have hval : Go.bits .and .u8 ((bt L k).toNat : Int) (Go.bits .xor .u8 ((bt lm k).toNat : Int) 255) = (tb.toNat : Int) := by
              rw [htb]; unfold tornB; simp only [Bool.false_eq_true, if_false]; rw [hmk, show (255 : Int) = ((255 : UInt8).toNat : Int) from rfl, u8_xor_b, u8_and_b]
            clear htb hmk
            go_wp2
            clear hval hc0 hz hdk
            obtain ⟨ws, hws⟩ : ∃ ws, ws = wr.setCell ⟨g, k, none⟩ (.int .u8 (tb.toNat : Int)) := ⟨_, rfl⟩
            rw [← hws] at hnew hfn hgv ⊢
            clear hws
            go_loopw [9, 10, 14] (fun c o i wx => ∃ j : Nat, j ≤ 8 ∧ i = .int .i64 j ∧ c = .int .i64 ((apTo L (tornR false L lm) (8 * k + j) : Nat) : Int) ∧ o = .int .i64 (laN L (tornR false L lm) (8 * k + j)) ∧ wx = ws) (fun _ _ i _ => 8 - (intI i))
            case atStart => exact ⟨0, by omega, rfl, rfl, rfl, rfl⟩
            case round =>
              obtain ⟨j, hj, rfl, rfl, rfl, rfl⟩ := hrel
              by_cases hlt2 : j < 8
              · obtain ⟨x, hx⟩ : ∃ x, x = bt L k ^^^ tb := ⟨_, rfl⟩
                obtain ⟨v, hv⟩ : ∃ v, v = x.toNat / 2 ^ j % 2 := ⟨_, rfl⟩
                have hxr : Go.bits .xor .u8 ((bt L k).toNat : Int) (tb.toNat : Int) = (x.toNat : Int) := by rw [hx]; exact u8_xor_b _ _
                have hxa : Go.bits .and .u8 ((x.toNat : Int) / 2 ^ j) 1 = (v : Int) := by rw [hv]; exact u8_and1 x j
                have hap : apB L (tornR false L lm) (8 * k + j) = v := by
                  unfold apB
                  rw [show (8 * k + j) / 8 = k by omega, show (8 * k + j) % 8 = j by omega, HTK.out, ← hx, hv]
                have hst : apTo L (tornR false L lm) (8 * k + (j + 1)) = apTo L (tornR false L lm) (8 * k + j) + v := by
                  rw [show 8 * k + (j + 1) = 8 * k + j + 1 from rfl, apTo, hap]
                have hsl : laN L (tornR false L lm) (8 * k + (j + 1)) = if v = 1 then (((8 * k + j) / 2 : Nat) : Int) else laN L (tornR false L lm) (8 * k + j) := by
                  rw [show 8 * k + (j + 1) = 8 * k + j + 1 from rfl, laN, hap]
                have hle := apTo_le L (tornR false L lm) (8 * k + j)
                have hv2 : v < 2 := by omega
                have HST := Lib.hid hst
                have HSL := Lib.hid hsl
                clear hx hv hst hap hsl
                by_cases hv1 : v = 1
                · have hve : ((v : Nat) : Int) = 1 := by omega
                  rw [hv1] at HST
                  rw [if_pos hv1] at HSL
                  clear hv1
                  go_wp2
                  go_roundw
                  case rel => exact ⟨j + 1, by omega, by go_num, by rw [HST.out]; go_num, by rw [HSL.out]; congr 1; omega, (by first | rfl | trivial)⟩
                  case measure => simp [intI]; omega
                · have hve : ¬ ((v : Nat) : Int) = 1 := by omega
                  rw [show v = 0 by omega] at HST
                  rw [if_neg hv1] at HSL
                  clear hv1
                  go_wp2
                  go_roundw
                  case rel => exact ⟨j + 1, by omega, by go_num, by rw [HST.out]; rfl, by rw [HSL.out], (by first | rfl | trivial)⟩
                  case measure => simp [intI]; omega
              · obtain rfl : j = 8 := by omega
                go_wp2
                go_roundw
                case rel => exact ⟨k + 1, by omega, by go_num, rfl, rfl, hnew, hfn⟩
                case measure => simp [intI]; omega
        · have hmk : mk lm 0 k = 0 := by unfold mk; rw [if_neg (by have := HLM.out; omega)]
          clear hrk
          cases up with
          | true =>
            have hval : Go.bits .or .u8 ((bt L k).toNat : Int) (0) = (tb.toNat : Int) := by
              rw [htb]; unfold tornB; simp only [if_true, riseB]; rw [hmk]; exact u8_or_b _ 0
            clear htb hmk
            go_wp2
            clear hval hc0 hz hdk
            obtain ⟨ws, hws⟩ : ∃ ws, ws = wr.setCell ⟨g, k, none⟩ (.int .u8 (tb.toNat : Int)) := ⟨_, rfl⟩
            rw [← hws] at hnew hfn hgv ⊢
            clear hws
            go_loopw [9, 10, 14] (fun c o i wx => ∃ j : Nat, j ≤ 8 ∧ i = .int .i64 j ∧ c = .int .i64 ((apTo L (tornR true L lm) (8 * k + j) : Nat) : Int) ∧ o = .int .i64 (laN L (tornR true L lm) (8 * k + j)) ∧ wx = ws) (fun _ _ i _ => 8 - (intI i))
            case atStart => exact ⟨0, by omega, rfl, rfl, rfl, rfl⟩
            case round =>
              obtain ⟨j, hj, rfl, rfl, rfl, rfl⟩ := hrel
              by_cases hlt2 : j < 8
              · obtain ⟨x, hx⟩ : ∃ x, x = bt L k ^^^ tb := ⟨_, rfl⟩
                obtain ⟨v, hv⟩ : ∃ v, v = x.toNat / 2 ^ j % 2 := ⟨_, rfl⟩
                have hxr : Go.bits .xor .u8 ((bt L k).toNat : Int) (tb.toNat : Int) = (x.toNat : Int) := by rw [hx]; exact u8_xor_b _ _
                have hxa : Go.bits .and .u8 ((x.toNat : Int) / 2 ^ j) 1 = (v : Int) := by rw [hv]; exact u8_and1 x j
                have hap : apB L (tornR true L lm) (8 * k + j) = v := by
                  unfold apB
                  rw [show (8 * k + j) / 8 = k by omega, show (8 * k + j) % 8 = j by omega, HTK.out, ← hx, hv]
                have hst : apTo L (tornR true L lm) (8 * k + (j + 1)) = apTo L (tornR true L lm) (8 * k + j) + v := by
                  rw [show 8 * k + (j + 1) = 8 * k + j + 1 from rfl, apTo, hap]
                have hsl : laN L (tornR true L lm) (8 * k + (j + 1)) = if v = 1 then (((8 * k + j) / 2 : Nat) : Int) else laN L (tornR true L lm) (8 * k + j) := by
                  rw [show 8 * k + (j + 1) = 8 * k + j + 1 from rfl, laN, hap]
                have hle := apTo_le L (tornR true L lm) (8 * k + j)
                have hv2 : v < 2 := by omega
                have HST := Lib.hid hst
                have HSL := Lib.hid hsl
                clear hx hv hst hap hsl
                by_cases hv1 : v = 1
                · have hve : ((v : Nat) : Int) = 1 := by omega
                  rw [hv1] at HST
                  rw [if_pos hv1] at HSL
                  clear hv1
                  go_wp2
                  go_roundw
                  case rel => exact ⟨j + 1, by omega, by go_num, by rw [HST.out]; go_num, by rw [HSL.out]; congr 1; omega, (by first | rfl | trivial)⟩
                  case measure => simp [intI]; omega
                · have hve : ¬ ((v : Nat) : Int) = 1 := by omega
                  rw [show v = 0 by omega] at HST
                  rw [if_neg hv1] at HSL
                  clear hv1
                  go_wp2
                  go_roundw
                  case rel => exact ⟨j + 1, by omega, by go_num, by rw [HST.out]; rfl, by rw [HSL.out], (by first | rfl | trivial)⟩
                  case measure => simp [intI]; omega
              · obtain rfl : j = 8 := by omega
                go_wp2
                go_roundw
                case rel => exact ⟨k + 1, by omega, by go_num, rfl, rfl, hnew, hfn⟩
                case measure => simp [intI]; omega
          | false =>
            have hval : Go.bits .and .u8 ((bt L k).toNat : Int) (Go.bits .xor .u8 (0) 255) = (tb.toNat : Int) := by
              rw [htb]; unfold tornB; simp only [Bool.false_eq_true, if_false]; rw [hmk, show (255 : Int) = ((255 : UInt8).toNat : Int) from rfl, show (0 : Int) = ((0 : UInt8).toNat : Int) from rfl, u8_xor_b, u8_and_b]
            clear htb hmk
            go_wp2
            clear hval hc0 hz hdk
            obtain ⟨ws, hws⟩ : ∃ ws, ws = wr.setCell ⟨g, k, none⟩ (.int .u8 (tb.toNat : Int)) := ⟨_, rfl⟩
            rw [← hws] at hnew hfn hgv ⊢
            clear hws
            go_loopw [9, 10, 14] (fun c o i wx => ∃ j : Nat, j ≤ 8 ∧ i = .int .i64 j ∧ c = .int .i64 ((apTo L (tornR false L lm) (8 * k + j) : Nat) : Int) ∧ o = .int .i64 (laN L (tornR false L lm) (8 * k + j)) ∧ wx = ws) (fun _ _ i _ => 8 - (intI i))
            case atStart => exact ⟨0, by omega, rfl, rfl, rfl, rfl⟩
            case round =>
              obtain ⟨j, hj, rfl, rfl, rfl, rfl⟩ := hrel
              by_cases hlt2 : j < 8
              · obtain ⟨x, hx⟩ : ∃ x, x = bt L k ^^^ tb := ⟨_, rfl⟩
                obtain ⟨v, hv⟩ : ∃ v, v = x.toNat / 2 ^ j % 2 := ⟨_, rfl⟩
                have hxr : Go.bits .xor .u8 ((bt L k).toNat : Int) (tb.toNat : Int) = (x.toNat : Int) := by rw [hx]; exact u8_xor_b _ _
                have hxa : Go.bits .and .u8 ((x.toNat : Int) / 2 ^ j) 1 = (v : Int) := by rw [hv]; exact u8_and1 x j
                have hap : apB L (tornR false L lm) (8 * k + j) = v := by
                  unfold apB
                  rw [show (8 * k + j) / 8 = k by omega, show (8 * k + j) % 8 = j by omega, HTK.out, ← hx, hv]
                have hst : apTo L (tornR false L lm) (8 * k + (j + 1)) = apTo L (tornR false L lm) (8 * k + j) + v := by
                  rw [show 8 * k + (j + 1) = 8 * k + j + 1 from rfl, apTo, hap]
                have hsl : laN L (tornR false L lm) (8 * k + (j + 1)) = if v = 1 then (((8 * k + j) / 2 : Nat) : Int) else laN L (tornR false L lm) (8 * k + j) := by
                  rw [show 8 * k + (j + 1) = 8 * k + j + 1 from rfl, laN, hap]
                have hle := apTo_le L (tornR false L lm) (8 * k + j)
                have hv2 : v < 2 := by omega
                have HST := Lib.hid hst
                have HSL := Lib.hid hsl
                clear hx hv hst hap hsl
                by_cases hv1 : v = 1
                · have hve : ((v : Nat) : Int) = 1 := by omega
                  rw [hv1] at HST
                  rw [if_pos hv1] at HSL
                  clear hv1
                  go_wp2
                  go_roundw
                  case rel => exact ⟨j + 1, by omega, by go_num, by rw [HST.out]; go_num, by rw [HSL.out]; congr 1; omega, (by first | rfl | trivial)⟩
                  case measure => simp [intI]; omega
                · have hve : ¬ ((v : Nat) : Int) = 1 := by omega
                  rw [show v = 0 by omega] at HST
                  rw [if_neg hv1] at HSL
                  clear hv1
                  go_wp2
                  go_roundw
                  case rel => exact ⟨j + 1, by omega, by go_num, by rw [HST.out]; rfl, by rw [HSL.out], (by first | rfl | trivial)⟩
                  case measure => simp [intI]; omega
              · obtain rfl : j = 8 := by omega
                go_wp2
                go_roundw
                case rel => exact ⟨k + 1, by omega, by go_num, rfl, rfl, hnew, hfn⟩
                case measure => simp [intI]; omega
      · obtain rfl : k = m := by omega
        rw [show upd (tornB up L lm) L k = tornR up L lm by unfold tornR; have := upd_all (tornB up L lm) L; rw [HLL.out] at this ⊢; exact this] at ho
        obtain ⟨h1, h2⟩ := HTR.out
        obtain ⟨_, _, he2, _, r5⟩ := ho.rd
        cases he2
        have hr5 := hr.frm2 hrw hf hA2
        have b5 := below_frm b1 b1.size hf hA2
        have hTl : (tornR up L lm).length = k := by rw [tornR_len, HLL.out]
        have hle := apTo_le L (tornR up L lm) (8 * k)
        have HTL := Lib.hid hTl
        generalize laN L (tornR up L lm) (8 * k) = la at *
        generalize apTo L (tornR up L lm) (8 * k) = c at *
        generalize tornR up L lm = T at *
        clear hTl hr hr1 hf b1 ho
        by_cases hc : 1 < c
        · have hq := fun A' c' wx hr' => Read_is A' k c' 0 T [] 0 30 wx HTL.out hr' (by omega) (h1 hc) rfl
          have hc2 : (1 : Int) < (c : Int) := by omega
          clear h1 h2 hc
          go_wp2_with fail
          with_reducible refine (hq _ _ _ r5).mono ?_
          rintro e w6 ⟨A6, c6, sp6, rfl, _, _, r6, b2⟩
          replace b5 := b5.trans (b2.mono b5.size)
          clear b2 hq
          go_wp2_with (go_at_call 14; (with_reducible refine (no_any _ _).mono ?_); rintro e w' ⟨rfl, rfl⟩)
          go_ret
          exact ⟨rfl, b5⟩
        · have hq := fun A' c' wx hr' => Read_is A' k c' n T l la 0 wx HTL.out hr' (by omega) (h2 (by omega)) HL.out
          have hc2 : ¬ (1 : Int) < (c : Int) := by omega
          clear h1 h2 hc
          go_wp2_with fail
          with_reducible refine (hq _ _ _ r5).mono ?_
          rintro e w6 ⟨A6, c6, sp6, rfl, _, _, r6, b2⟩
          replace b5 := b5.trans (b2.mono b5.size)
          replace hr5 := hr5.below b2
          clear b2 hq
          go_wp2_with (go_at_call 14; (with_reducible refine (no_any _ _).mono ?_); rintro e w' ⟨rfl, rfl⟩)
          with_reducible refine (same_true A6 A n c6 cap l _ HL.out r6 hr5 (by omega)).mono ?_
          rintro e w7 ⟨rfl, hq⟩
          have b2 := bel_drawn hq
          replace b5 := b5.trans (b2.mono b5.size)
          go_wp2
          go_ret
          exact ⟨rfl, b5⟩
end Go.Proofs.YthmdfobkdaocaaaDoor
