/- Walks of the document's own rails: bit, pair, columns, Size, Lay. -/
import Derived.Test.YtekbjcagjkcaiaaDoorTRy
import Derived.Test.YtekbjcagjkcaiaaDoorTRb
namespace Go.Proofs.YtekbjcagjkcaiaaDoor
open Go.RowKit
set_option linter.unusedVariables false
set_option linter.unusedSimpArgs false
def prN (v : Nat) : Nat := if v = 1 then 1 else 2
def rxTo (x h : Nat) : Nat → Nat
  | 0 => 0
  | k + 1 => rxTo x h k ||| prN (x / 2 ^ (4 * h + k) % 2) * 2 ^ (2 * k)
theorem rx_tab : ∀ b : Fin 256, ∀ h : Fin 2, rxTo b.val h.val 4 = sprT (if h.val = 0 then b.val % 16 else b.val / 16) := by decide +kernel
theorem rx_lt : ∀ b : Fin 256, ∀ h : Fin 2, ∀ k : Fin 5, rxTo b.val h.val k.val < 256 := by decide +kernel
theorem rxTo_lt (b : UInt8) (h k : Nat) (hh : h < 2) (hk : k ≤ 4) : rxTo b.toNat h k < 256 := rx_lt ⟨b.toNat, b.toNat_lt⟩ ⟨h, hh⟩ ⟨k, by omega⟩
set_option maxHeartbeats 800000 in
theorem rpair_any (v : Nat) (hv : v < 2) (w : World) :
    Calls Tryd.prog 49 #[.int .i64 (v : Int)] w fun e w' => e = .returned (.int .u8 ((prN v : Nat) : Int)) ∧ w = w' := by
  unfold prN
  by_cases h : v = 1
  · subst h
    go_enter Tryd.func49, Tryd.ntmps49
    go_wp2
    go_ret
    exact ⟨rfl, rfl⟩
  · obtain rfl : v = 0 := by omega
    go_enter Tryd.func49, Tryd.ntmps49
    go_wp2
    go_ret
    exact ⟨rfl, rfl⟩
theorem layTwo_sp (b : UInt8) (h : Nat) (hh : h < 2) : (layTwo b).take (h + 1) = (layTwo b).take h ++ [sp4 (if h = 0 then b.toNat % 16 else b.toNat / 16)] := by
  have : h = 0 ∨ h = 1 := by omega
  rcases this with rfl | rfl <;> rfl
set_option maxRecDepth 100000 in
set_option maxHeartbeats 6400000 in
theorem rLay_any (A : Option Addr) (n cap : Nat) (l : List UInt8) (w : World) (hl : l.length = n) (hr : Rd w A (u8s l)) (hm : n ≤ 140737488351232) :
    Calls Tryd.prog 33 #[.slice A n cap] w fun e w' => ∃ v sp, e = .returned (.tuple #[v, .int .i64 (layR l).2]) ∧ Owx w' 5 1 v (layR l).1.length (u8s (layR l).1) sp ∧ (∀ q, v.ownBlock = some q → w.heap.size ≤ q) ∧ Below w.heap.size w w' := by
  unfold layR
  by_cases hbig : 4095 < n
  · rw [hl, if_pos hbig]
    clear hl
    go_enter Tryd.func33, Tryd.ntmps33
    go_wp2
    go_ret2
    exact ⟨_, [], rfl, .inl ⟨rfl, rfl, rfl, rfl⟩, (fun q hq => by cases hq), Below.refl _ _⟩
  · rw [hl, if_neg hbig]
    have HL := Lib.hid hl
    clear hl
    obtain ⟨B, hB⟩ : ∃ B, B = w.heap.size := ⟨_, rfl⟩
    obtain ⟨w1, sp1, hmk, ho1, hf1⟩ := own_makeg w 22 5 _ Tryd.underlying22 info5 (n + 1) ((n : Int) + 1) (by omega) (by omega)
    have hbl1 : Below B w w1 := by rw [hB]; exact hf1.below (Nat.le_refl _) (fun _ _ h => h)
    have hs1 := hf1.size
    rw [← hB] at hmk ho1 hs1
    have HB := Lib.hid hB
    clear hB hf1
    go_enter Tryd.func33, Tryd.ntmps33
    go_wp2
    clear hmk
    go_loopw [4, 5] (fun v i wr => ∃ k : Nat, k ≤ n ∧ i = .int .i64 k ∧ (∃ sp, Owx wr 5 1 v k (u8s (l.take k)) sp) ∧ (∀ q, v.ownBlock = some q → B ≤ q) ∧ Below B w wr) (fun _ i _ => n - (intI i))
    case atStart => exact ⟨0, by omega, rfl, ⟨sp1, .of_own ho1⟩, (fun q hq => Nat.le_of_eq (Option.some.inj hq)), hbl1⟩
    case round =>
      obtain ⟨k, hk, rfl, ⟨sp, ho⟩, hfr, hbl⟩ := hrel
      clear ho1 hbl1 hs1
      have hsz : B ≤ wr.heap.size := by have := HB.out; rw [this] at hbl ⊢; exact hbl.size
      have r4 : Rd wr A (u8s l) := hr.below (by rw [← HB.out]; exact hbl)
      by_cases hlt : k < n
      · obtain ⟨ad, rfl, hc⟩ := r4.at_ (k := k) (u8s_bt l k (by have := HL.out; omega))
        go_wp2_with (at_builtin; refine wpList_appx _ rfl (.tmp 24) (.tmp 29) 22 rfl 5 _ 1 1 Tryd.underlying22 info5 rfl (by decide) rfl (ho.alloc _) rfl rfl (rd_one _ _ _) (one_int _ _) (by unfold maxLen; omega) (by omega) ?_; intro v1 w3 sp3 ho3 hy3)
        have f1 := fresh_app (B := B) (by simp; omega) hfr hy3.at_
        have b1 : Below B w w3 := below_frm (hbl.alloc hsz _) (by simp; omega) hy3.frm (fun q hq => hfr q hq)
        clear ho hy3 hfr hbl
        go_roundw
        case rel => exact ⟨k + 1, by omega, by go_num, ⟨sp3, by rw [List.take_add_one, bt_get l k (by have := HL.out; omega), u8s_append]; exact ho3⟩, f1, b1⟩
        case measure => simp [intI]; omega
      · obtain rfl : k = n := by omega
        rw [List.take_of_length_le (by have := HL.out; omega)] at ho
        go_wp2_with fail
        with_reducible refine (rcols_any A k cap l _ HL.out r4 (by omega)).mono ?_
        rintro e w' ⟨rfl, rfl⟩
        go_wp2_with (at_builtin; refine wpList_appx _ rfl (.tmp 31) (.tmp 34) 22 rfl 5 _ 1 1 Tryd.underlying22 info5 rfl (by decide) rfl (ho.alloc _) rfl rfl (rd_one _ _ _) (one_int _ _) (by unfold maxLen; omega) (by omega) ?_; intro v3 w3 sp3 ho3 hy3; obtain ⟨A3, c3, rfl, hc3, r3⟩ := ho3.rd; obtain ⟨w5, sp5, hmk, ho5, hf5⟩ := own_makeg w3 22 5 _ Tryd.underlying22 info5 (2 * (k + 1)) (2 * ((k : Int) + 1)) (by omega) (by omega))
        have hy : Lay (wr.alloc (.cells #[.int .u8 ((colsB l).toNat : Int)] 5)) w3 u4 (.slice A3 (k + 1) c3) := hy3
        have f3 := fresh_app (B := B) (by simp; omega) hfr hy.at_
        have b3 : Below B w w3 := below_frm (hbl.alloc hsz _) (by simp; omega) hy.frm (fun q hq => hfr q hq)
        have b35 : Below w3.heap.size w3 w5 := hf5.below (Nat.le_refl _) (fun _ _ h => h)
        have hsz3 : B ≤ w3.heap.size := by have := hy.frm.size; simp at this; omega
        have b5 := b3.trans (b35.mono hsz3)
        rw [show u8s l ++ [.int .u8 ((colsB l).toNat : Int)] = u8s (withC l) by rw [withC, u8s_append]; rfl] at r3
        have r5 := r3.below b35
        have hA3 : ∀ ad, A3 = some ad → ad.block < w3.heap.size := fun ad e => by
          obtain ⟨ad2, e2, hb⟩ := r3.blocks (by intro h; have := congrArg List.length h; rw [u8s_length, withC_len] at this; simp at this)
          rw [e] at e2; cases e2; exact hb
        obtain ⟨B2, hB2⟩ : ∃ B2, B2 = w3.heap.size := ⟨_, rfl⟩
        rw [← hB2] at ho5 hA3 hsz3 ⊢
        have hwl : (withC l).length = k + 1 := by rw [withC_len, HL.out]
        have HW := Lib.hid hwl
        have hlay : layB l = layAll (withC l) := rfl
        have HLY := Lib.hid hlay
        have hB5 : B2 < w5.heap.size := ho5.lt _ rfl
        clear hlay hwl r3 b35 hf5 hB2 hmk hy hy3 ho3 f3 ho hfr hbl r4 hsz
        generalize withC l = lc at *
        go_loopw [6, 7] (fun v i wr => ∃ k' : Nat, k' ≤ k + 1 ∧ i = .int .i64 k' ∧ (∃ sp, Owx wr 5 1 v (2 * k') (u8s (layAll (lc.take k'))) sp) ∧ (∀ q, v.ownBlock = some q → B2 ≤ q) ∧ Frm (fun q => B2 ≤ q) w5 wr) (fun _ i _ => k + 1 - (intI i))
        case atStart => exact ⟨0, by omega, rfl, ⟨sp5, .of_own ho5⟩, (fun q hq => Nat.le_of_eq (Option.some.inj hq)), Frm.refl _ _⟩
        case round =>
          obtain ⟨i, hi, rfl, ⟨sp, ho⟩, hfr, hbl⟩ := hrel
          by_cases hlt : i < k + 1
          · have hst : layAll (lc.take (i + 1)) = layAll (lc.take i) ++ layTwo (bt lc i) := layAll_step lc i (by have := HW.out; omega)
            have HST := Lib.hid hst
            clear hst
            have hdi : decide ((i : Int) < (k : Int) + 1) = true := by simp; omega
            go_wp2
            clear hdi
            go_loopw [6, 8] (fun v hh wr => ∃ h : Nat, h ≤ 2 ∧ hh = .int .i64 h ∧ (∃ sp, Owx wr 5 1 v (2 * i + h) (u8s (layAll (lc.take i) ++ (layTwo (bt lc i)).take h)) sp) ∧ (∀ q, v.ownBlock = some q → B2 ≤ q) ∧ Frm (fun q => B2 ≤ q) w5 wr) (fun _ hh _ => 2 - (intI hh))
            case atStart => exact ⟨0, by omega, rfl, ⟨sp, by simpa using ho⟩, hfr, hbl⟩
            case round =>
              clear ho hfr hbl
              obtain ⟨h, hh, rfl, ⟨sp, ho⟩, hfr, hbl⟩ := hrel
              by_cases hlt2 : h < 2
              · have r6 := r5.frm hbl (fun ad e => by have := hA3 ad e; omega)
                obtain ⟨ad, rfl, hc⟩ := r6.at_ (k := i) (u8s_bt lc i (by have := HW.out; omega))
                have hdh : decide ((h : Int) < 2) = true := by simp; omega
                go_wp2
                clear hdh
                go_loopw [9, 10] (fun x kk wx => ∃ q : Nat, q ≤ 4 ∧ kk = .int .i64 q ∧ x = .int .u8 ((rxTo (bt lc i).toNat h q : Nat) : Int) ∧ wx = wr) (fun _ kk _ => 4 - (intI kk))
                case atStart => exact ⟨0, by omega, rfl, rfl, rfl⟩
                case round =>
                  obtain ⟨q, hq, rfl, rfl, rfl⟩ := hrel
                  have hx4 := rxTo_lt (bt lc i) h q hlt2 hq
                  by_cases hlt3 : q < 4
                  · have hx5 := rxTo_lt (bt lc i) h (q + 1) hlt2 (by omega)
                    obtain ⟨v, hv⟩ : ∃ v, v = (bt lc i).toNat / 2 ^ (4 * h + q) % 2 := ⟨_, rfl⟩
                    have hv2 : v < 2 := by omega
                    have hbit := fun (z : Int) (hz : z = ((4 * h + q : Nat) : Int)) (wx : World) => rbit_any (bt lc i) z (4 * h + q) hz (by omega) wx
                    rw [← hv] at hbit
                    have hpr := rpair_any v hv2
                    have hstep : rxTo (bt lc i).toNat h (q + 1) = rxTo (bt lc i).toNat h q ||| prN v * 2 ^ (2 * q) := by rw [rxTo, hv]
                    have hpN : prN v ≤ 2 := by unfold prN; split <;> omega
                    have hval : Go.bits .or .u8 ((rxTo (bt lc i).toNat h q : Nat) : Int) (((prN v : Nat) : Int) * 2 ^ (2 * q) % 256) = ((rxTo (bt lc i).toNat h (q + 1) : Nat) : Int) := by
                      have hp : (2 : Nat) ^ (2 * q) ≤ 2 ^ 6 := Nat.pow_le_pow_right (by decide) (by omega)
                      have hp2 : prN v * 2 ^ (2 * q) ≤ 2 * 64 := Nat.mul_le_mul hpN hp
                      have e1 : ((prN v : Nat) : Int) * 2 ^ (2 * q) = ((prN v * 2 ^ (2 * q) : Nat) : Int) := by simp
                      rw [e1, Int.emod_eq_of_lt (by omega) (by omega), u8_or_nat _ _ hx4 (by omega), hstep]
                    have HV := Lib.hid hv
                    clear hv hstep
                    obtain ⟨xn, hxn⟩ : ∃ xn, xn = rxTo (bt lc i).toNat h (q + 1) := ⟨_, rfl⟩
                    rw [← hxn] at hval
                    have HXN := Lib.hid hxn
                    clear hxn hx5
                    generalize prN v = pv at *
                    go_wp2_with (first
                      | (go_at_call 50; (with_reducible refine (hbit _ (by omega) _).mono ?_); rintro e w' ⟨rfl, rfl⟩)
                      | (go_at_call 49; (with_reducible refine (hpr _).mono ?_); rintro e w' ⟨rfl, rfl⟩))
                    go_roundw
                    case rel => exact ⟨q + 1, by omega, by go_num, by rw [HXN.out], (by first | rfl | trivial)⟩
                    case measure => simp [intI]; omega
                  · obtain rfl : q = 4 := by omega
                    have htab := rx_tab ⟨(bt lc i).toNat, (bt lc i).toNat_lt⟩ ⟨h, hlt2⟩
                    simp only at htab
                    rw [htab, ← sp4_nat]
                    have HSP := Lib.hid (layTwo_sp (bt lc i) h hlt2)
                    clear htab hx4
                    generalize sp4 (if h = 0 then (bt lc i).toNat % 16 else (bt lc i).toNat / 16) = nb at *
                    go_wp2_with (at_builtin; refine wpList_appx _ rfl (.tmp 70) (.tmp 72) 22 rfl 5 _ 1 1 Tryd.underlying22 info5 rfl (by decide) rfl (ho.alloc _) rfl rfl (rd_one _ _ _) (one_int _ _) (by unfold maxLen; omega) (by omega) ?_; intro v1 w8 sp8 ho8 hy8)
                    have hsz6 := hbl.size
                    have f8 := fresh_app (B := B2) (by simp; omega) hfr hy8.at_
                    have h8 : Frm (fun q => B2 ≤ q) w5 w8 := (hbl.alloc _).trans (hy8.frm.mono (fun q _ hq => hfr q hq))
                    clear ho hy8 hfr hbl
                    go_roundw
                    case rel =>
                      exact ⟨h + 1, by omega, by go_num, ⟨sp8, by rw [HSP.out, ← List.append_assoc, u8s_append]; exact ho8⟩, f8, h8⟩
                    case measure => simp [intI]; omega
              · obtain rfl : h = 2 := by omega
                go_wp2
                go_roundw
                case rel => exact ⟨i + 1, by omega, by go_num, ⟨sp, by rw [HST.out]; exact ho⟩, hfr, hbl⟩
                case measure => simp [intI]; omega
          · obtain rfl : i = k + 1 := by omega
            rw [List.take_of_length_le (by have := HW.out; omega)] at ho
            have hbe := b5.trans (hbl.below (B := B) (by omega) (fun q hq => by omega))
            go_wp2
            go_ret2
            have hll : (layB l).length = 2 * (k + 1) := by rw [layB_len, HL.out]; omega
            refine ⟨_, sp, rfl, ?_, fun q hq => ?_, ?_⟩
            · rw [hll, HLY.out]; exact ho
            · have := HB.out; have := hfr q hq; omega
            · rw [← HB.out]; exact hbe
end Go.Proofs.YtekbjcagjkcaiaaDoor
