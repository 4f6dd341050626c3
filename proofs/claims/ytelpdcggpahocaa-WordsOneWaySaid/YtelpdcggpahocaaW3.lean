/- Walks of functions that make bytes, or write them in place. -/
import Derived.Test.YtelpdcggpahocaaW2
import Derived.Test.YtelpdcggpahocaaLen
import Derived.StillTailTactics
namespace Go.Proofs.Ytelpdcggpahocaa
open Go.RowKit
set_option linter.unusedVariables false
set_option linter.unusedSimpArgs false

/-- v is a new row of bytes: l; nothing that was there has changed. -/
def NewB (w w' : World) (v : Value) (l : List UInt8) : Prop :=
  ∃ sp, Own w' 5 1 v l.length (u8s l) sp ∧ (∀ k, v.ownBlock = some k → w.heap.size ≤ k) ∧ Below w.heap.size w w'
theorem NewB.rd {w w' : World} {v : Value} {l : List UInt8} (h : NewB w w' v l) : ∃ A cap, v = .slice A l.length cap ∧ Rd w' A (u8s l) := by
  obtain ⟨sp, ho, _, _⟩ := h
  obtain ⟨A, cap, e, _, hr⟩ := ho.rd
  exact ⟨A, cap, e, hr⟩

set_option maxHeartbeats 800000 in
theorem refjoin_any (A : Option Addr) (n cap : Nat) (l : List UInt8) (w : World) (hl : l.length = n) (hr : Rd w A (u8s l)) (hm : n ≤ 140737488355328) :
    Calls Try.prog 37 #[.slice A n cap] w fun e w' => ∃ v, e = .returned v ∧ NewB w w' v l := by
  have HL := Lib.hid hl
  have HR := Lib.hid hr
  clear hl hr
  obtain ⟨B, hB⟩ : ∃ B, B = w.heap.size := ⟨_, rfl⟩
  have h0 : Own (w.alloc (.cells #[] 5)) 5 1 (.slice (some ⟨w.heap.size, 0, none⟩) 0 0) 0 [] [] := Own.new w 5 1 0 [] rfl (Nat.zero_le _)
  have hB' := Lib.hid hB
  clear hB
  go_enter Try.func37, Try.ntmps37
  go_wp2
  go_loopw [3, 4] (fun v i wr => ∃ k : Nat, k ≤ n ∧ i = .int .i64 k ∧ (∃ sp, Own wr 5 1 v k (u8s (gen (bt l) k)) sp) ∧ (∀ q, v.ownBlock = some q → B ≤ q) ∧ Below B w wr) (fun _ i _ => n - (intOf i).toNat)
  case atStart =>
    have := hB'.out
    exact ⟨0, by omega, rfl, ⟨[], h0⟩, by intro q hq; cases hq; show B ≤ w.heap.size; omega, by rw [this]; exact (Below.refl _ w).alloc (Nat.le_refl _) _⟩
  case round =>
    obtain ⟨k, hk, rfl, ⟨sp, ho⟩, hfr, hbl⟩ := hrel
    by_cases hlt : k < n
    · have hlen := HL.out
      obtain ⟨ad, rfl, hc⟩ := (HR.out.below (by rw [← hB'.out]; exact hbl)).at_ (k := k) (u8s_bt l k (by omega))
      have hsz : B ≤ wr.heap.size := by rw [hB'.out]; exact hbl.size
      clear hlen
      have ho1 := ho.frm ((Frm.refl (fun _ => False) wr).alloc (.cells (u8s [bt l k]).toArray 5)) (fun _ _ h => h)
      have hn1 : Rd (wr.alloc (.cells (u8s [bt l k]).toArray 5)) (some ⟨wr.heap.size, 0, none⟩) (u8s [bt l k]) := Rd.of_blk (sp := []) (by simpa using Blk.new wr 5 (u8s [bt l k]))
      simp only [u8s, bv, List.map_cons, List.map_nil] at hn1 ho1
      go_wp2_with (at_builtin; refine wpList_app _ rfl _ _ 22 rfl 5 _ 1 1 Try.underlying22 info5 rfl (by decide) rfl ho1 rfl ?_ hn1 (one_u8s [bt l k]) ?_ ?_ ?_)
      · rfl
      · unfold maxLen; omega
      · omega
      · intro v1 w1 sp1 ho2 hy1
        have hf1 := hy1.frm
        have hat1 := hy1.at_
        clear hy1
        have f1 := fresh_app (B := B) (by simp; omega) hfr hat1
        have b1 : Below B w w1 := below_frm (hbl.alloc hsz (.cells (u8s [bt l k]).toArray 5)) (by simp; omega) hf1 (fun q hq => hfr q hq)
        clear hn1 ho1 ho hc hf1 hat1 hfr hbl
        go_wp2
        go_roundw
        case rel => exact ⟨k + 1, by omega, by go_num, ⟨sp1, by rw [gen_succ, u8s_append]; exact ho2⟩, f1, b1⟩
        case measure => simp [intOf]; omega
    · obtain rfl : k = n := by omega
      go_wp2
      go_ret
      have hlen := HL.out
      have hg : gen (bt l) k = l := by rw [← hlen]; exact gen_bt l
      rw [hg] at ho
      have hb := hB'.out
      subst hb
      exact ⟨_, rfl, sp, by rw [hlen]; exact ho, hfr, hbl⟩

set_option maxHeartbeats 800000 in
theorem flip_any (g off n cap : Nat) (l : List UInt8) (pre post : List Value) (bit : Int) (w : World) (hl : l.length = n) (hp : pre.length = off) (hb : Blk w g 5 (pre ++ (u8s l ++ post))) (hm : n ≤ 140737488355328) :
    Calls Try.prog 21 #[.slice (some ⟨g, off, none⟩) n cap, .int .i64 bit] w fun e w' => e = .returned (.int .i64 (flipR l bit).2) ∧ Blk w' g 5 (pre ++ (u8s (flipR l bit).1 ++ post)) ∧ Frm (· = g) w w' := by
  have HL := Lib.hid hl
  clear hl
  by_cases h : bit < 0 ∨ 8 * (n : Int) ≤ bit
  · have e : flipR l bit = (l, 10) := by unfold flipR; rw [if_pos (by have := HL.out; omega)]
    rw [e]; clear e
    by_cases h0 : bit < 0
    · go_enter Try.func21, Try.ntmps21
      go_wp2
      go_ret
      exact ⟨rfl, hb, Frm.refl _ _⟩
    · have h1 : 8 * (n : Int) ≤ bit := by omega
      go_enter Try.func21, Try.ntmps21
      go_wp2
      go_ret
      exact ⟨rfl, hb, Frm.refl _ _⟩
  · have e : flipR l bit = (flipB l bit.toNat, 0) := by unfold flipR; rw [if_neg (by have := HL.out; omega)]
    rw [e]; clear e
    obtain ⟨b, rfl⟩ : ∃ b : Nat, bit = b := ⟨bit.toNat, by omega⟩
    have hlt : b < 8 * n := by omega
    have hlt8 : b / 8 < n := by omega
    clear h
    simp only [Int.toNat_natCast]
    have hlen := HL.out
    have hlo : (u8s l).length = n := by rw [u8s_length]; omega
    have hc : w.cell? ⟨g, off + b / 8, none⟩ = some (.int .u8 ((bt l (b / 8)).toNat : Int)) := by
      rw [hb.cell, List.getElem?_append_right (by omega), show off + b / 8 - pre.length = b / 8 from by omega, List.getElem?_append_left (by omega), u8s_bt _ _ (by omega)]
    have hz := hb.frozen (off + b / 8)
    have hx := xor_bit (bt l (b / 8)) (b % 8) (by omega)
    have hbs := hb.set_ (off + b / 8) (bv (flipBit (bt l (b / 8)) (b % 8)))
    rw [List.set_append_right _ _ (by omega), show off + b / 8 - pre.length = b / 8 from by omega, List.set_append_left _ _ (by omega), u8s_set] at hbs
    have hfs := (Frm.refl (· = g) w).setCell (p := ⟨g, off + b / 8, none⟩) (fun _ => rfl) (bv (flipBit (bt l (b / 8)) (b % 8)))
    clear hb hlen hlo hp
    go_enter Try.func21, Try.ntmps21
    go_wp2
    go_region
    go_wp2
    go_ret
    exact ⟨rfl, hbs, hfs.drew⟩

set_option maxHeartbeats 1600000 in
theorem put_any (g off n cap : Nat) (l : List UInt8) (pre post : List Value) (at_ size : Int) (v : Nat) (w : World) (hl : l.length = n) (hp : pre.length = off) (hb : Blk w g 5 (pre ++ (u8s l ++ post))) (hm : n ≤ 140737488355328)
    (hv : v < 18446744073709551616) (ha1 : -9223372036854775808 ≤ at_) (ha2 : at_ ≤ 9223372036854775807) :
    Calls Try.prog 27 #[.slice (some ⟨g, off, none⟩) n cap, .int .i64 at_, .int .i64 size, .int .u64 v] w fun e w' => e = .returned (.int .i64 (putR l at_ size v).2) ∧ Blk w' g 5 (pre ++ (u8s (putR l at_ size v).1 ++ post)) ∧ Frm (· = g) w w' := by
  have HL := Lib.hid hl
  have HV := Lib.hid hv
  clear hl hv
  by_cases hs : size < 1 ∨ 8 < size ∨ 256 ^ size.toNat ≤ v
  · have e : putR l at_ size v = (l, 11) := by unfold putR; rw [if_pos hs]
    rw [e]; clear e
    by_cases h1 : size < 1
    · go_enter Try.func27, Try.ntmps27
      go_wp2
      go_ret
      exact ⟨rfl, hb, Frm.refl _ _⟩
    · by_cases h2 : 8 < size
      · go_enter Try.func27, Try.ntmps27
        go_wp2
        go_ret
        exact ⟨rfl, hb, Frm.refl _ _⟩
      · have hbl : 8 * size < (Lib.bitLen v : Int) := by
          have h3 := bitLen_iff v (8 * size.toNat) (by omega) HV.out
          rw [← pow256] at h3
          have h4 : 256 ^ size.toNat ≤ v := by omega
          omega
        have hv0 : (0 : Int) ≤ v := by omega
        have hv1 : (v : Int) ≤ 18446744073709551615 := by have := HV.out; omega
        have HV1 := Lib.hid hv1
        clear hs hv1
        go_enter Try.func27, Try.ntmps27
        go_wp2_with (go_at_call 39; refine (len64_any _ _ (by omega) HV1.out).mono ?_; rintro e w' ⟨rfl, rfl⟩; simp only [Int.toNat_natCast])
        go_ret
        exact ⟨rfl, hb, Frm.refl _ _⟩
  · have h1 : 1 ≤ size := by omega
    have h8 : size ≤ 8 := by omega
    have hbl : (Lib.bitLen v : Int) ≤ 8 * size := by
      have h3 := bitLen_iff v (8 * size.toNat) (by omega) HV.out
      rw [← pow256] at h3
      have h4 : v < 256 ^ size.toNat := by omega
      omega
    have hv0 : (0 : Int) ≤ v := by omega
    have hv1 : (v : Int) ≤ 18446744073709551615 := by have := HV.out; omega
    have HV1 := Lib.hid hv1
    clear hv1
    by_cases ha : at_ < 0 ∨ (n : Int) - size < at_
    · have e : putR l at_ size v = (l, 10) := by unfold putR; rw [if_neg hs, if_pos (by have := HL.out; omega)]
      rw [e]; clear e hs
      by_cases h0 : at_ < 0
      · go_enter Try.func27, Try.ntmps27
        go_wp2_with (go_at_call 39; refine (len64_any _ _ (by omega) HV1.out).mono ?_; rintro e w' ⟨rfl, rfl⟩; simp only [Int.toNat_natCast])
        go_ret
        exact ⟨rfl, hb, Frm.refl _ _⟩
      · have h' : (n : Int) - size < at_ := by omega
        go_enter Try.func27, Try.ntmps27
        go_wp2_with (go_at_call 39; refine (len64_any _ _ (by omega) HV1.out).mono ?_; rintro e w' ⟨rfl, rfl⟩; simp only [Int.toNat_natCast])
        go_ret
        exact ⟨rfl, hb, Frm.refl _ _⟩
    · have e : putR l at_ size v = (putB l at_.toNat size.toNat v, 0) := by unfold putR; rw [if_neg hs, if_neg (by have := HL.out; omega)]
      rw [e]; clear e hs
      obtain ⟨at_, rfl⟩ : ∃ n : Nat, at_ = n := ⟨at_.toNat, by omega⟩
      obtain ⟨size, rfl⟩ : ∃ n : Nat, size = n := ⟨size.toNat, by omega⟩
      have hat : at_ + size ≤ n := by omega
      have h1' : 1 ≤ size := by omega
      have h8' : size ≤ 8 := by omega
      clear ha h1 h8 ha1 ha2
      simp only [Int.toNat_natCast]
      have HP := Lib.hid hp
      clear hp
      go_enter Try.func27, Try.ntmps27
      go_wp2_with (go_at_call 39; refine (len64_any _ _ (by omega) HV1.out).mono ?_; rintro e w' ⟨rfl, rfl⟩; simp only [Int.toNat_natCast])
      go_loopw [34] (fun i wr => ∃ k : Nat, k ≤ size ∧ i = .int .i64 k ∧ Blk wr g 5 (pre ++ (u8s (putB l at_ k v) ++ post)) ∧ Frm (· = g) w wr) (fun i _ => size - (intOf i).toNat)
      case atStart => exact ⟨0, by omega, rfl, by simpa [putB, leb, gen_zero] using hb, Frm.refl _ _⟩
      case round =>
        obtain ⟨k, hk, rfl, hbr, hfr⟩ := hrel
        by_cases hlt : k < size
        · have hlen := HL.out
          have hpl := HP.out
          have hlo : (u8s (putB l at_ k v)).length = n := by rw [u8s_length, putB_len _ _ _ _ (by omega)]; omega
          have hz := hbr.frozen (off + (at_ + k))
          have hx := byte_at v k
          have hc : ∃ u, wr.cell? ⟨g, off + (at_ + k), none⟩ = some u := by
            rw [hbr.cell]
            exact ⟨_, List.getElem?_eq_getElem (by simp only [List.length_append]; omega)⟩
          obtain ⟨u, hc⟩ := hc
          have hbs := hbr.set_ (off + (at_ + k)) (bv (lowB (v / 256 ^ k)))
          rw [List.set_append_right _ _ (by omega), show off + (at_ + k) - pre.length = at_ + k from by omega, List.set_append_left _ _ (by omega), u8s_set, putB_step _ _ _ _ (by omega)] at hbs
          have hfs := hfr.setCell (p := ⟨g, off + (at_ + k), none⟩) (fun _ => rfl) (bv (lowB (v / 256 ^ k)))
          clear hbr hlen hpl hlo
          go_wp2
          go_roundw
          case rel => exact ⟨k + 1, by omega, by go_num, hbs, hfs⟩
          case measure => simp [intOf]; omega
        · obtain rfl : k = size := by omega
          go_wp2
          go_ret
          exact ⟨rfl, hbr, hfr⟩

end Go.Proofs.Ytelpdcggpahocaa
