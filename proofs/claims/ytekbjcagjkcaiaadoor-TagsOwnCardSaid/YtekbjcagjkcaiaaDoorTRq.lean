/- Walks of the document's reading of rails: broken, lower, mend, Read. -/
import Derived.Test.YtekbjcagjkcaiaaDoorTRb
import Derived.Test.YtekbjcagjkcaiaaDoorRp
import Derived.Test.YtekbjcagjkcaiaaDoorTRd
import Derived.BigQuiet
namespace Go.Proofs.YtekbjcagjkcaiaaDoor
open Go.RowKit
set_option linter.unusedVariables false
set_option linter.unusedSimpArgs false
theorem ret2_int {a b c d : Int} (h : a = b) (h2 : c = d) : Ending.returned (.tuple #[.int .i64 a, .int .i64 c]) = .returned (.tuple #[.int .i64 b, .int .i64 d]) := by rw [h, h2]
set_option maxRecDepth 100000 in
set_option maxHeartbeats 3200000 in
theorem broken_any (A : Option Addr) (n cap : Nat) (l : List UInt8) (w : World) (hl : l.length = n) (hr : Rd w A (u8s l)) (hm : n ≤ 8192) :
    Calls Tryd.prog 41 #[.slice A n cap] w fun e w' => e = .returned (.tuple #[.int .i64 ((bcN l (4 * n) : Nat) : Int), .int .i64 (blN l (4 * n))]) ∧ Below w.heap.size w w' := by
  have HL := Lib.hid hl
  clear hl
  go_enter Tryd.func41, Tryd.ntmps41
  go_wp2
  go_loopw [4, 5, 6] (fun c o i wr => ∃ k : Nat, k ≤ n ∧ i = .int .i64 k ∧ c = .int .i64 ((bcN l (4 * k) : Nat) : Int) ∧ o = .int .i64 (blN l (4 * k)) ∧ Frm (fun _ => False) w wr) (fun _ _ i _ => n - (intI i))
  case atStart => exact ⟨0, by omega, rfl, rfl, rfl, Frm.refl _ _⟩
  case round =>
    obtain ⟨k, hk, rfl, rfl, rfl, hf⟩ := hrel
    by_cases hlt : k < n
    · have hdk : decide ((k : Int) < (n : Int)) = true := by simp; omega
      go_wp2
      clear hdk
      go_loopw [4, 5, 7] (fun c o i wr => ∃ j : Nat, j ≤ 4 ∧ i = .int .i64 j ∧ c = .int .i64 ((bcN l (4 * k + j) : Nat) : Int) ∧ o = .int .i64 (blN l (4 * k + j)) ∧ Frm (fun _ => False) w wr) (fun _ _ i _ => 4 - (intI i))
      case atStart => exact ⟨0, by omega, rfl, rfl, rfl, hf⟩
      case round =>
        clear hf
        obtain ⟨j, hj, rfl, rfl, rfl, hf⟩ := hrel
        by_cases hlt2 : j < 4
        · have hr2 := hr.frm hf (fun _ _ => id)
          obtain ⟨ad, rfl, hc⟩ := hr2.at_ (k := k) (u8s_bt l k (by have := HL.out; omega))
          obtain ⟨v1, hv1⟩ : ∃ v1, v1 = (bt l k).toNat / 2 ^ (2 * j) % 2 := ⟨_, rfl⟩
          obtain ⟨v2, hv2⟩ : ∃ v2, v2 = (bt l k).toNat / 2 ^ (2 * j + 1) % 2 := ⟨_, rfl⟩
          have hb1 := fun (z : Int) (hz : z = ((2 * j : Nat) : Int)) (wx : World) => rbit_any (bt l k) z (2 * j) hz (by omega) wx
          have hb2 := fun (z : Int) (hz : z = ((2 * j + 1 : Nat) : Int)) (wx : World) => rbit_any (bt l k) z (2 * j + 1) hz (by omega) wx
          rw [← hv1] at hb1
          rw [← hv2] at hb2
          have hbk : bkN l (4 * k + j) = (v1 == v2) := by rw [bkN_at l k j hlt2, hv1, hv2]; rfl
          have hbc := bcN_le l (4 * k + j)
          have hstc : bcN l (4 * k + (j + 1)) = bcN l (4 * k + j) + if bkN l (4 * k + j) then 1 else 0 := rfl
          have hstl : blN l (4 * k + (j + 1)) = if bkN l (4 * k + j) then ((4 * k + j : Nat) : Int) else blN l (4 * k + j) := rfl
          have hw1 : IntKind.i64.wrap (2 * (j : Int)) = 2 * (j : Int) := IntWalk.i64_in _ (by omega)
          have hw2 : IntKind.i64.wrap (2 * (j : Int) + 1) = 2 * (j : Int) + 1 := IntWalk.i64_in _ (by omega)
          have HSC := Lib.hid hstc
          have HSL := Lib.hid hstl
          have HBK := Lib.hid hbk
          clear hv1 hv2 hstc hstl hbk
          by_cases hvv : v1 = v2
          · have hve : ((v1 : Nat) : Int) = v2 := by omega
            have hbt : bkN l (4 * k + j) = true := by rw [HBK.out, hvv]; simp
            have HBT := Lib.hid hbt
            clear hvv hbt
            go_upto_region 9 with fail
            go_quiet ((go_at_call 50; first | exact Calls.quiet_of_same (back_same (hb1 _ (by omega) _)) | exact Calls.quiet_of_same (back_same (hb2 _ (by omega) _))))
            clear hw1 hw2
            go_wp2
            go_roundw
            case rel => exact ⟨j + 1, by omega, by go_num, by rw [HSC.out, HBT.out]; rfl, by rw [HSL.out, HBT.out]; go_num, hf.drewN _⟩
            case measure => simp [intI]; omega
          · have hve : ¬ ((v1 : Nat) : Int) = v2 := by omega
            have hbt : bkN l (4 * k + j) = false := by rw [HBK.out]; simpa using hvv
            have HBT := Lib.hid hbt
            clear hvv hbt
            go_upto_region 9 with fail
            go_quiet ((go_at_call 50; first | exact Calls.quiet_of_same (back_same (hb1 _ (by omega) _)) | exact Calls.quiet_of_same (back_same (hb2 _ (by omega) _))))
            clear hw1 hw2
            go_wp2
            go_roundw
            case rel => exact ⟨j + 1, by omega, by go_num, by rw [HSC.out, HBT.out]; rfl, by rw [HSL.out, HBT.out]; rfl, hf.drewN _⟩
            case measure => simp [intI]; omega
        · obtain rfl : j = 4 := by omega
          go_wp2
          go_roundw
          case rel => exact ⟨k + 1, by omega, by go_num, rfl, rfl, hf⟩
          case measure => simp [intI]; omega
    · obtain rfl : k = n := by omega
      go_wp2
      go_ret2
      exact ⟨rfl, hf.below (Nat.le_refl _) (fun _ _ h => h)⟩
set_option maxRecDepth 100000 in
set_option maxHeartbeats 3200000 in
theorem lower_any (A : Option Addr) (m cap : Nat) (l : List UInt8) (w : World) (hl : l.length = 2 * m) (hr : Rd w A (u8s l)) (hm : m ≤ 4096) :
    Calls Tryd.prog 55 #[.slice A (2 * m) cap] w fun e w' => e = .returned (.slice (some ⟨w.heap.size, 0, none⟩) m m) ∧ Blk w' w.heap.size 5 (u8s (lowR l)) ∧ Below w.heap.size w w' := by
  have HL := Lib.hid hl
  clear hl
  have h5 : (2 * (m : Int)) / 2 = m := by omega
  obtain ⟨w1, hw1⟩ : ∃ w1, w1 = w.alloc (.cells (List.replicate m (.int .u8 0)).toArray 5) := ⟨_, rfl⟩
  have hmk := run_makeN w 22 5 _ Tryd.underlying22 info5 rfl m (m : Int) rfl (by omega)
  rw [← hw1] at hmk
  have hlow : u8s (lowK l 0) = List.replicate m (.int .u8 0) := by
    rw [lowK_zero, HL.out, show 2 * m / 2 = m by omega]
    apply List.ext_getElem
    · simp [u8s, gen]
    · intro i a1 a2; simp [u8s, gen, bv]
  have hG : Blk w1 w.heap.size 5 (u8s (lowK l 0)) := by rw [hw1, hlow]; exact Blk.new w _ _
  have hb1 : Below w.heap.size w w1 := by rw [hw1]; exact (Below.refl _ w).alloc (Nat.le_refl _) _
  obtain ⟨B, hB⟩ : ∃ B, B = w.heap.size := ⟨_, rfl⟩
  rw [← hB] at hmk hG hb1 ⊢
  have HB := Lib.hid hB
  clear hw1 hlow hB
  go_enter Tryd.func55, Tryd.ntmps55
  go_wp2
  clear h5 hmk
  go_loopw [4] (fun i wr => ∃ k : Nat, k ≤ 2 * m ∧ i = .int .i64 (k : Nat) ∧ Blk wr B 5 (u8s (lowK l k)) ∧ Below B w wr) (fun i _ => 2 * m - (intI i))
  case atStart => exact ⟨0, by omega, rfl, hG, hb1⟩
  case round =>
    clear hG hb1
    obtain ⟨k, hk, rfl, hblk, hbl⟩ := hrel
    by_cases hlt : k < 2 * m
    · have hdk : decide ((k : Int) < 2 * (m : Int)) = true := by simp; omega
      have hkm : k / 2 < l.length / 2 := by have := HL.out; omega
      rw [← lowS_zero l k hkm] at hblk
      go_wp2
      clear hdk
      go_loopw [5] (fun i wr => ∃ j : Nat, j ≤ 4 ∧ i = .int .i64 (j : Nat) ∧ Blk wr B 5 (u8s (lowS l k j)) ∧ Below B w wr) (fun i _ => 4 - (intI i))
      case atStart => exact ⟨0, by omega, rfl, hblk, hbl⟩
      case round =>
        clear hblk hbl
        obtain ⟨j, hj, rfl, hblk, hbl⟩ := hrel
        by_cases hlt2 : j < 4
        · have r4 : Rd wr A (u8s l) := hr.below (by rw [← HB.out]; exact hbl)
          obtain ⟨ad, rfl, hc⟩ := r4.at_ (k := k) (u8s_bt l k (by have := HL.out; omega))
          obtain ⟨v1, hv1⟩ : ∃ v1, v1 = (bt l k).toNat / 2 ^ (2 * j) % 2 := ⟨_, rfl⟩
          have hv12 : v1 < 2 := by omega
          have hb1 := fun (z : Int) (hz : z = ((2 * j : Nat) : Int)) (wx : World) => rbit_any (bt l k) z (2 * j) hz (by omega) wx
          rw [← hv1] at hb1
          obtain ⟨q, hq⟩ : ∃ q, q = k / 2 := ⟨_, rfl⟩
          have hc0 : wr.cell? ⟨B, q, none⟩ = some (.int .u8 ((lowP l k j).toNat : Int)) := by
            rw [hblk.cell, u8s_bt _ _ (by rw [lowS_len]; omega), hq, lowS_bt l k j hkm]
          have hz := hblk.frozen q
          have hblk2 := hblk.set_ q (bv (lowP l k (j + 1)))
          rw [u8s_set, hq, lowS_set, ← hq] at hblk2
          have hbl2 : Below B w (wr.setCell ⟨B, q, none⟩ (bv (lowP l k (j + 1)))) := below_frm hbl (by have := hblk.lt; omega) ((Frm.refl (fun x => x = B) wr).setCell (p := ⟨B, q, none⟩) (fun _ => rfl) _) (fun x hx => by rw [hx]; exact Nat.le_refl _)
          have hqm : q < m := by omega
          have hq2 : (k : Int) / 2 = (q : Int) := by rw [hq]; rfl
          obtain ⟨e, he⟩ : ∃ e, e = 4 * (k % 2) + j := ⟨_, rfl⟩
          have he8 : e < 8 := by omega
          have he2 : 4 * ((k : Int) % 2) + (j : Int) = (e : Int) := by rw [he]; omega
          have hst : (lowP l k (j + 1)).toNat = (lowP l k j).toNat ||| v1 * 2 ^ e := by rw [lowP_step l k j hlt2, hv1, he]
          have hval : Go.bits .or .u8 ((lowP l k j).toNat : Int) ((v1 : Int) * 2 ^ e % 256) = ((lowP l k (j + 1)).toNat : Int) := by
            have hp : (2 : Nat) ^ e ≤ 2 ^ 7 := Nat.pow_le_pow_right (by decide) (by omega)
            have hp2 : v1 * 2 ^ e ≤ 1 * 128 := Nat.mul_le_mul (by omega) hp
            have e1 : (v1 : Int) * 2 ^ e = ((v1 * 2 ^ e : Nat) : Int) := by simp
            rw [e1, Int.emod_eq_of_lt (by omega) (by omega), u8_or_nat _ _ (lowP l k j).toNat_lt (by omega), hst]
          have HST := Lib.hid hst
          have HQ := Lib.hid hq
          clear hv1 hst hq he r4 hblk hbl
          go_wp2_with (go_at_call 50; (with_reducible refine (hb1 _ (by omega) _).mono ?_); rintro e w' ⟨rfl, rfl⟩)
          go_roundw
          case rel => exact ⟨j + 1, by omega, by go_num, hblk2, hbl2⟩
          case measure => simp [intI]; omega
        · obtain rfl : j = 4 := by omega
          rw [lowS_four l k (by have := HL.out; omega) (by rw [HL.out]; omega)] at hblk
          go_wp2
          go_roundw
          case rel => exact ⟨k + 1, by omega, by go_num, hblk, hbl⟩
          case measure => simp [intI]; omega
    · obtain rfl : k = 2 * m := by omega
      rw [show lowK l (2 * m) = lowR l by unfold lowR; rw [HL.out]] at hblk
      go_wp2
      go_ret
      exact ⟨rfl, hblk, hbl⟩
/-- The bytes when N pairs have been looked at. -/
def mendS (l : List UInt8) (o : Option Nat) (N : Nat) : List UInt8 := match o with
  | none => lowR l
  | some p => if p < N then fixB (lowR l) p else lowR l
theorem mendS_same (l : List UInt8) (o : Option Nat) (N : Nat) (h : o ≠ some N) : mendS l o (N + 1) = mendS l o N := by
  cases o with
  | none => rfl
  | some p =>
    have : p ≠ N := fun e => h (by rw [e])
    unfold mendS
    simp only
    by_cases h1 : p < N
    · rw [if_pos h1, if_pos (by omega)]
    · rw [if_neg h1, if_neg (by omega)]
theorem mendS_at (l : List UInt8) (N : Nat) : mendS l (some N) N = lowR l ∧ mendS l (some N) (N + 1) = fixB (lowR l) N := by
  unfold mendS
  simp only
  rw [if_neg (by omega), if_pos (by omega)]
  exact ⟨rfl, rfl⟩
theorem mendS_len (l : List UInt8) (o : Option Nat) (N : Nat) : (mendS l o N).length = l.length / 2 := by
  unfold mendS
  split
  · exact lowK_len _ _
  · split
    · exact (fixB_len _ _).trans (lowK_len _ _)
    · exact lowK_len _ _
set_option maxRecDepth 100000 in
set_option maxHeartbeats 3200000 in
theorem mend_any (A : Option Addr) (m cap : Nat) (l : List UInt8) (o : Option Nat) (w : World) (hl : l.length = 2 * m) (hr : Rd w A (u8s l)) (hm : m ≤ 4096) (ho : ∀ N, N < 8 * m → (bkN l N = true ↔ o = some N)) :
    Calls Tryd.prog 42 #[.slice A (2 * m) cap] w fun e w' => e = .returned (.slice (some ⟨w.heap.size, 0, none⟩) m m) ∧ Blk w' w.heap.size 5 (u8s (mendS l o (8 * m))) ∧ Below w.heap.size w w' := by
  have HL := Lib.hid hl
  have HO := Lib.hid ho
  have hlw := lower_any A m cap l w hl hr hm
  clear hl ho
  obtain ⟨B, hB⟩ : ∃ B, B = w.heap.size := ⟨_, rfl⟩
  rw [← hB] at hlw ⊢
  have HB := Lib.hid hB
  clear hB
  go_enter Tryd.func42, Tryd.ntmps42
  go_wp2_with fail
  with_reducible refine hlw.mono ?_
  rintro e w1 ⟨rfl, hG, hb1⟩
  rw [show lowR l = mendS l o 0 by cases o with | none => rfl | some p => (unfold mendS; simp)] at hG
  clear hlw
  go_wp2
  go_loopw [4] (fun i wr => ∃ k : Nat, k ≤ 2 * m ∧ i = .int .i64 (k : Nat) ∧ Blk wr B 5 (u8s (mendS l o (4 * k))) ∧ Below B w wr) (fun i _ => 2 * m - (intI i))
  case atStart => exact ⟨0, by omega, rfl, hG, hb1⟩
  case round =>
    clear hG hb1
    obtain ⟨k, hk, rfl, hblk, hbl⟩ := hrel
    by_cases hlt : k < 2 * m
    · have hdk : decide ((k : Int) < 2 * (m : Int)) = true := by simp; omega
      go_wp2
      clear hdk
      go_loopw [5] (fun i wr => ∃ j : Nat, j ≤ 4 ∧ i = .int .i64 (j : Nat) ∧ Blk wr B 5 (u8s (mendS l o (4 * k + j))) ∧ Below B w wr) (fun i _ => 4 - (intI i))
      case atStart => exact ⟨0, by omega, rfl, hblk, hbl⟩
      case round =>
        clear hblk hbl
        obtain ⟨j, hj, rfl, hblk, hbl⟩ := hrel
        by_cases hlt2 : j < 4
        · have r4 : Rd wr A (u8s l) := hr.below (by rw [← HB.out]; exact hbl)
          obtain ⟨ad, rfl, hc⟩ := r4.at_ (k := k) (u8s_bt l k (by have := HL.out; omega))
          obtain ⟨v1, hv1⟩ : ∃ v1, v1 = (bt l k).toNat / 2 ^ (2 * j) % 2 := ⟨_, rfl⟩
          obtain ⟨v2, hv2⟩ : ∃ v2, v2 = (bt l k).toNat / 2 ^ (2 * j + 1) % 2 := ⟨_, rfl⟩
          have hb1 := fun (z : Int) (hz : z = ((2 * j : Nat) : Int)) (wx : World) => rbit_any (bt l k) z (2 * j) hz (by omega) wx
          have hb2 := fun (z : Int) (hz : z = ((2 * j + 1 : Nat) : Int)) (wx : World) => rbit_any (bt l k) z (2 * j + 1) hz (by omega) wx
          rw [← hv1] at hb1
          rw [← hv2] at hb2
          have hbk : bkN l (4 * k + j) = (v1 == v2) := by rw [bkN_at l k j hlt2, hv1, hv2]; rfl
          have hw1 : IntKind.i64.wrap (2 * (j : Int)) = 2 * (j : Int) := IntWalk.i64_in _ (by omega)
          have hw2 : IntKind.i64.wrap (2 * (j : Int) + 1) = 2 * (j : Int) + 1 := IntWalk.i64_in _ (by omega)
          have HBK := Lib.hid hbk
          have hN := HO.out (4 * k + j) (by omega)
          clear hv1 hv2 hbk
          by_cases hvv : v1 = v2
          · have hve : ((v1 : Nat) : Int) = v2 := by omega
            have hoN : o = some (4 * k + j) := hN.1 (by rw [HBK.out, hvv]; simp)
            subst hoN
            obtain ⟨hm1, hm2⟩ := mendS_at l (4 * k + j)
            rw [hm1] at hblk
            rw [fix_bit] at hm2
            have HM2 := Lib.hid hm2
            clear hvv hN hm1 hm2
            go_upto_region 8 with fail
            go_quiet ((go_at_call 50; first | exact Calls.quiet_of_same (back_same (hb1 _ (by omega) _)) | exact Calls.quiet_of_same (back_same (hb2 _ (by omega) _))))
            clear hw1 hw2 hb1 hb2
            obtain ⟨q, hq⟩ : ∃ q, q = (4 * k + j) / 8 := ⟨_, rfl⟩
            obtain ⟨e, he⟩ : ∃ e, e = (4 * k + j) % 8 := ⟨_, rfl⟩
            have he8 : e < 8 := by omega
            have he2 : 4 * ((k : Int) % 2) + (j : Int) = (e : Int) := by rw [he]; omega
            have hq2 : (k : Int) / 2 = (q : Int) := by rw [hq]; omega
            have hqm : q < m := by omega
            have hlen : (lowR l).length = m := by unfold lowR; rw [lowK_len, HL.out]; omega
            have hRd : ∀ nq, Rd (wr.drewN nq) (some ⟨B, 0, none⟩) (u8s (lowR l)) := fun nq => Rd.of_blk (sp := []) (by rw [List.append_nil]; exact hblk.drewN nq)
            have hcol := fun nq => rcols_any (some ⟨B, 0, none⟩) m m (lowR l) (wr.drewN nq) hlen (hRd nq) (by omega)
            have hbc := fun (wx : World) => rbit_any (colsB (lowR l)) (e : Int) e rfl he8 wx
            obtain ⟨cb, hcb⟩ : ∃ cb, cb = (colsB (lowR l)).toNat / 2 ^ e % 2 := ⟨_, rfl⟩
            rw [← hcb] at hbc
            have hc0 : wr.cell? ⟨B, q, none⟩ = some (.int .u8 ((bt (lowR l) q).toNat : Int)) := by rw [hblk.cell, u8s_bt _ _ (by omega)]
            have hz := hblk.frozen q
            have HM3 : Hid (mendS l (some (4 * k + j)) (4 * k + j + 1) = if cb = 1 then (lowR l).set q (bt (lowR l) q ^^^ UInt8.ofNat (2 ^ e)) else (lowR l).set q (bt (lowR l) q)) := Lib.hid (by rw [HM2.out, hcb, he, hq])
            clear hq he hcb hlen hRd
            by_cases hc1 : cb = 1
            · have hce : ((cb : Nat) : Int) = 1 := by omega
              obtain ⟨nb, hnb⟩ : ∃ nb, nb = bt (lowR l) q ^^^ UInt8.ofNat (2 ^ e) := ⟨_, rfl⟩
              have hblk2 := hblk.set_ q (bv nb)
              rw [u8s_set, hnb, show (lowR l).set q (bt (lowR l) q ^^^ UInt8.ofNat (2 ^ e)) = mendS l (some (4 * k + j)) (4 * k + j + 1) by rw [HM3.out, if_pos hc1], ← hnb] at hblk2
              have hbl2 : Below B w (wr.setCell ⟨B, q, none⟩ (bv nb)) := below_frm hbl (by have := hblk.lt; omega) ((Frm.refl (fun x => x = B) wr).setCell (p := ⟨B, q, none⟩) (fun _ => rfl) _) (fun x hx => by rw [hx]; exact Nat.le_refl _)
              have hval : Go.bits .xor .u8 ((bt (lowR l) q).toNat : Int) (2 ^ e % 256) = (nb.toNat : Int) := by rw [hnb]; exact xor_bit _ e he8
              clear hnb hc1 hblk hbl
              go_wp2_with fail
              with_reducible refine (hcol _).mono ?_
              rintro e' w' ⟨rfl, rfl⟩
              go_wp2_with fail
              with_reducible refine (hbc _).mono ?_
              rintro e' w' ⟨rfl, rfl⟩
              go_wp2
              refine ⟨⟨j + 1, by omega, by go_num, hblk2, ⟨hbl2.os, hbl2.tape, hbl2.output, hbl2.size, hbl2.block⟩⟩, ?_⟩
              simp [intI]
              omega
            · have hce : ¬ ((cb : Nat) : Int) = 1 := by omega
              rw [if_neg hc1, set_same] at HM3
              clear hc1
              go_wp2_with fail
              with_reducible refine (hcol _).mono ?_
              rintro e' w' ⟨rfl, rfl⟩
              go_wp2_with fail
              with_reducible refine (hbc _).mono ?_
              rintro e' w' ⟨rfl, rfl⟩
              go_wp2
              go_roundw
              case rel => exact ⟨j + 1, by omega, by go_num, by rw [show 4 * k + (j + 1) = 4 * k + j + 1 from rfl, HM3.out]; exact hblk.drewN _, bel_drewN hbl _⟩
              case measure => simp [intI]; omega
          · have hve : ¬ ((v1 : Nat) : Int) = v2 := by omega
            have hoN : o ≠ some (4 * k + j) := fun h => by have := hN.2 h; rw [HBK.out] at this; exact hvv (by simpa using this)
            have hms := mendS_same l o _ hoN
            rw [← hms] at hblk
            clear hvv hN hoN hms
            go_upto_region 8 with fail
            go_quiet ((go_at_call 50; first | exact Calls.quiet_of_same (back_same (hb1 _ (by omega) _)) | exact Calls.quiet_of_same (back_same (hb2 _ (by omega) _))))
            clear hw1 hw2
            go_wp2
            go_roundw
            case rel => exact ⟨j + 1, by omega, by go_num, hblk.drewN _, bel_drewN hbl _⟩
            case measure => simp [intI]; omega
        · obtain rfl : j = 4 := by omega
          go_wp2
          go_roundw
          case rel => exact ⟨k + 1, by omega, by go_num, hblk, hbl⟩
          case measure => simp [intI]; omega
    · obtain rfl : k = 2 * m := by omega
      go_wp2
      go_ret
      exact ⟨rfl, by rw [show 8 * m = 4 * (2 * m) by omega]; exact hblk, hbl⟩
theorem RdP.ok2 {l O : List UInt8} {t : Int} {m B : Nat} {w w' : World} (hE : readR l = (O.take (m - 1), t, 0)) (hO : O.length = m) (h1 : 1 ≤ m) (hm : m ≤ maxLen) (hb : Blk w' B 5 (u8s O)) (hB : w.heap.size ≤ B) (hbl : Below w.heap.size w w') :
    RdP (readR l) w (.returned (.tuple #[.slice (some ⟨B, 0, none⟩) (m - 1) m, .int .i64 t, .int .i64 0])) w' := by
  rw [hE]
  have hl : (O.take (m - 1)).length = m - 1 := by rw [List.length_take]; omega
  refine ⟨_, u8s (O.drop (m - 1)), rfl, ?_, fun q hq => ?_, hbl⟩
  · rw [hl]
    refine .inr ⟨B, m, rfl, ?_, by rw [u8s_length, hl]; omega, by rw [u8s_length, u8s_length, hl, List.length_drop]; omega, by omega, hm⟩
    rw [← u8s_append, List.take_append_drop]
    exact hb
  · have : B = q := Option.some.inj hq
    omega
theorem bk_only (l : List UInt8) (M : Nat) (o : Option Nat) (h0 : o = none → bcN l M = 0) (h1 : ∀ p, o = some p → bcN l M = 1 ∧ bkN l p = true ∧ p < M) : (∀ N, N < M → (bkN l N = true ↔ o = some N)) ∧ blN l M = atR o := by
  rcases o with _ | p
  · obtain ⟨h2, h3⟩ := bc_zero l M (h0 rfl)
    exact ⟨fun N hN => ⟨(fun h => by rw [h3 N hN] at h; cases h), (fun h => by cases h)⟩, h2⟩
  · obtain ⟨h2, h3, h4⟩ := h1 p rfl
    obtain ⟨p', h5, h6, h7⟩ := bc_one l M h2
    have : p = p' := (h7 p h4).1 h3
    subst this
    exact ⟨fun N hN => (h7 N hN).trans ⟨fun h => by rw [h], fun h => (Option.some.inj h).symm⟩, h6⟩
theorem mend_out (l : List UInt8) (o : Option Nat) (M : Nat) (h : ∀ p, o = some p → p < M) : mendS l o M = outR l o := by
  cases o with
  | none => rfl
  | some p => unfold mendS; simp only; rw [if_pos (h p rfl)]; rfl
set_option maxRecDepth 100000 in
set_option maxHeartbeats 3200000 in
theorem rRead_any (A : Option Addr) (n cap : Nat) (l : List UInt8) (w : World) (hl : l.length = n) (hr : Rd w A (u8s l)) (hm : n ≤ 140737488355328) :
    Calls Tryd.prog 29 #[.slice A n cap] w (RdP (readR l) w) := by
  by_cases hbad : n < 2 ∨ n % 2 ≠ 0 ∨ 8192 < n
  · have hR : readR l = ([], 0, 31) := by unfold readR; rw [hl, if_pos hbad]
    have HR := Lib.hid hR
    clear hl hR
    by_cases h1 : n < 2
    · go_enter Tryd.func29, Tryd.ntmps29
      go_wp2
      go_ret3
      exact RdP.err HR.out (Below.refl _ _)
    · by_cases h2 : (n : Int) % 2 = 0
      · have h3 : 8192 < n := by omega
        go_enter Tryd.func29, Tryd.ntmps29
        go_wp2
        go_ret3
        exact RdP.err HR.out (Below.refl _ _)
      · go_enter Tryd.func29, Tryd.ntmps29
        go_wp2
        go_ret3
        exact RdP.err HR.out (Below.refl _ _)
  · have h1 : ¬ n < 2 := fun h => hbad (.inl h)
    have h2 : n % 2 = 0 := Decidable.byContradiction (fun h => hbad (.inr (.inl h)))
    have h3 : ¬ 8192 < n := fun h => hbad (.inr (.inr h))
    have hR : readR l = endR l (scanR l n) := by
      unfold readR; rw [hl, if_neg hbad]
    clear hbad
    obtain ⟨m, rfl⟩ : ∃ m, n = 2 * m := ⟨n / 2, by omega⟩
    have HL := Lib.hid hl
    have h4 : (2 * (m : Int)) % 2 = 0 := by omega
    have hbr := broken_any A (2 * m) cap l w hl hr (by omega)
    have hbcl := bcN_le l (4 * (2 * m))
    clear h2
    rcases scan_bc l (2 * m) with ⟨o, hs, hle, ho0, ho1⟩ | ⟨hs, hgt⟩
    · obtain ⟨hbk, hbl⟩ := bk_only l (4 * (2 * m)) o ho0 ho1
      rw [hs] at hR
      rw [hbl] at hbr
      have hmend := fun wx hx => mend_any A m cap l o wx hl hx (by omega) (fun N hN => hbk N (by omega))
      rw [mend_out l o (8 * m) (fun p hp => by have := (ho1 p hp).2.2; omega)] at hmend
      obtain ⟨c, hc⟩ : ∃ c, c = bcN l (4 * (2 * m)) := ⟨_, rfl⟩
      rw [← hc] at hbr hle
      have HR := Lib.hid hR
      have hlen : (outR l o).length = m := by rw [outR_len, hl]; omega
      have HLN := Lib.hid hlen
      have hc1 : ¬ (1 : Int) < (c : Int) := by omega
      clear hl hR hs hbk hbl ho0 ho1 hc hlen
      go_enter Tryd.func29, Tryd.ntmps29
      go_wp2_with fail
      clear h4
      with_reducible refine hbr.mono ?_
      rintro e w1 ⟨rfl, b1⟩
      go_wp2_with fail
      with_reducible refine (hmend _ (hr.below b1)).mono ?_
      rintro e w2 ⟨rfl, k2, b2⟩
      have hsz := b1.size
      replace b1 := b1.trans (b2.mono hsz)
      obtain ⟨B, hB⟩ : ∃ B, B = w1.heap.size := ⟨_, rfl⟩
      rw [← hB] at k2 hsz ⊢
      clear b2 hB hmend hbr
      have hcol := rcols_any (some ⟨B, 0, none⟩) m m (outR l o) w2 HLN.out (Rd.of_blk (sp := []) (by simpa using k2)) (by omega)
      go_wp2_with fail
      with_reducible refine hcol.mono ?_
      rintro e w' ⟨rfl, rfl⟩
      by_cases hz : colsB (outR l o) = 0
      · have hz2 : (((colsB (outR l o)).toNat : Nat) : Int) = 0 := by rw [hz]; rfl
        have hE2 : readR l = ((outR l o).take (m - 1), atR o, 0) := by
          rw [HR.out]; simp only [endR]; rw [if_neg (by simpa using hz), HL.out, show 2 * m / 2 = m by omega]
        have HE2 := Lib.hid hE2
        have hsl := sl_to (some ⟨B, 0, none⟩) m m (m - 1) (by omega) w2 (by unfold maxLen; omega)
        rw [show ((m - 1 : Nat) : Int) = (m : Int) - 1 by omega] at hsl
        clear hz hE2
        go_wp2
        go_ret3
        exact RdP.ok2 HE2.out HLN.out (by omega) (by unfold maxLen; omega) k2 hsz b1
      · have hz2 : ¬ (((colsB (outR l o)).toNat : Nat) : Int) = 0 := fun h => hz (UInt8.toNat_inj.1 (by rw [show (0 : UInt8).toNat = 0 from rfl]; omega))
        have hE2 : readR l = ([], 0, 30) := by
          rw [HR.out]; simp only [endR]; rw [if_pos hz]
        have HE2 := Lib.hid hE2
        clear hz hE2
        go_wp2
        go_ret3
        exact RdP.err HE2.out b1
    · rw [hs] at hR
      have HR := Lib.hid hR
      obtain ⟨c, hc⟩ : ∃ c, c = bcN l (4 * (2 * m)) := ⟨_, rfl⟩
      rw [← hc] at hbr hgt
      have hc1 : (1 : Int) < (c : Int) := by omega
      clear hl hR hs hc
      go_enter Tryd.func29, Tryd.ntmps29
      go_wp2_with fail
      clear h4
      with_reducible refine hbr.mono ?_
      rintro e w1 ⟨rfl, b1⟩
      go_wp2
      go_ret3
      exact RdP.err HR.out b1
end Go.Proofs.YtekbjcagjkcaiaaDoor
