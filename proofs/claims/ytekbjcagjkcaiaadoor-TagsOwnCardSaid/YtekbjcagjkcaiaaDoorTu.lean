/- The walk of words.Put. -/
import Derived.Test.YtekbjcagjkcaiaaDoorTg
import Derived.Test.YtekbjcagjkcaiaaDoorLen
import Derived.StillTailTactics
namespace Go.Proofs.YtekbjcagjkcaiaaDoor
open Go.RowKit
set_option linter.unusedVariables false
set_option linter.unusedSimpArgs false
set_option maxHeartbeats 1600000 in
theorem put_any (g off n cap : Nat) (l : List UInt8) (pre post : List Value) (at_ size : Int) (v : Nat) (w : World) (hl : l.length = n) (hp : pre.length = off) (hb : Blk w g 5 (pre ++ (u8s l ++ post))) (hm : n ≤ 140737488355328)
    (hv : v < 18446744073709551616) (ha1 : -9223372036854775808 ≤ at_) (ha2 : at_ ≤ 9223372036854775807) :
    Calls Tryd.prog 35 #[.slice (some ⟨g, off, none⟩) n cap, .int .i64 at_, .int .i64 size, .int .u64 v] w fun e w' => e = .returned (.int .i64 (putR l at_ size v).2) ∧ Blk w' g 5 (pre ++ (u8s (putR l at_ size v).1 ++ post)) ∧ Frm (· = g) w w' := by
  have HL := Lib.hid hl
  have HV := Lib.hid hv
  clear hl hv
  by_cases hs : size < 1 ∨ 8 < size ∨ 256 ^ size.toNat ≤ v
  · have e : putR l at_ size v = (l, 11) := by unfold putR; rw [if_pos hs]
    rw [e]; clear e
    by_cases h1 : size < 1
    · go_enter Tryd.func35, Tryd.ntmps35
      go_wp2
      go_ret
      exact ⟨rfl, hb, Frm.refl _ _⟩
    · by_cases h2 : 8 < size
      · go_enter Tryd.func35, Tryd.ntmps35
        go_wp2
        go_ret
        exact ⟨rfl, hb, Frm.refl _ _⟩
      · have hbl : 8 * size < (Lib.bitLen v : Int) := by
          have h3 := bitLen_iff v (8 * size.toNat) (by omega) HV.out
          rw [← pow256] at h3
          have h4 : 256 ^ size.toNat ≤ v := by omega
          omega
        have hv0 : (0 : Int) ≤ v := by omega
        have hv1 : (v : Int) ≤ 18446744073709551615 := by have := HV.out; omega
        have HV1 := Lib.hid hv1
        clear hs hv1
        go_enter Tryd.func35, Tryd.ntmps35
        go_wp2_with (go_at_call 51; refine (len64_any _ _ (by omega) HV1.out).mono ?_; rintro e w' ⟨rfl, rfl⟩; simp only [Int.toNat_natCast])
        go_ret
        exact ⟨rfl, hb, Frm.refl _ _⟩
  · have h1 : 1 ≤ size := by omega
    have h8 : size ≤ 8 := by omega
    have hbl : (Lib.bitLen v : Int) ≤ 8 * size := by
      have h3 := bitLen_iff v (8 * size.toNat) (by omega) HV.out
      rw [← pow256] at h3
      have h4 : v < 256 ^ size.toNat := by omega
      omega
    have hv0 : (0 : Int) ≤ v := by omega
    have hv1 : (v : Int) ≤ 18446744073709551615 := by have := HV.out; omega
    have HV1 := Lib.hid hv1
    clear hv1
    by_cases ha : at_ < 0 ∨ (n : Int) - size < at_
    · have e : putR l at_ size v = (l, 10) := by unfold putR; rw [if_neg hs, if_pos (by have := HL.out; omega)]
      rw [e]; clear e hs
      by_cases h0 : at_ < 0
      · go_enter Tryd.func35, Tryd.ntmps35
        go_wp2_with (go_at_call 51; refine (len64_any _ _ (by omega) HV1.out).mono ?_; rintro e w' ⟨rfl, rfl⟩; simp only [Int.toNat_natCast])
        go_ret
        exact ⟨rfl, hb, Frm.refl _ _⟩
      · have h' : (n : Int) - size < at_ := by omega
        go_enter Tryd.func35, Tryd.ntmps35
        go_wp2_with (go_at_call 51; refine (len64_any _ _ (by omega) HV1.out).mono ?_; rintro e w' ⟨rfl, rfl⟩; simp only [Int.toNat_natCast])
        go_ret
        exact ⟨rfl, hb, Frm.refl _ _⟩
    · have e : putR l at_ size v = (putB l at_.toNat size.toNat v, 0) := by unfold putR; rw [if_neg hs, if_neg (by have := HL.out; omega)]
      rw [e]; clear e hs
      obtain ⟨at_, rfl⟩ : ∃ n : Nat, at_ = n := ⟨at_.toNat, by omega⟩
      obtain ⟨size, rfl⟩ : ∃ n : Nat, size = n := ⟨size.toNat, by omega⟩
      have hat : at_ + size ≤ n := by omega
      have h1' : 1 ≤ size := by omega
      have h8' : size ≤ 8 := by omega
      clear ha h1 h8 ha1 ha2
      simp only [Int.toNat_natCast]
      have HP := Lib.hid hp
      clear hp
      go_enter Tryd.func35, Tryd.ntmps35
      go_wp2_with (go_at_call 51; refine (len64_any _ _ (by omega) HV1.out).mono ?_; rintro e w' ⟨rfl, rfl⟩; simp only [Int.toNat_natCast])
      go_loopw [34] (fun i wr => ∃ k : Nat, k ≤ size ∧ i = .int .i64 k ∧ Blk wr g 5 (pre ++ (u8s (putB l at_ k v) ++ post)) ∧ Frm (· = g) w wr) (fun i _ => size - (intOf i).toNat)
      case atStart => exact ⟨0, by omega, rfl, by simpa [putB, leb, gen_zero] using hb, Frm.refl _ _⟩
      case round =>
        obtain ⟨k, hk, rfl, hbr, hfr⟩ := hrel
        by_cases hlt : k < size
        · have hlen := HL.out
          have hpl := HP.out
          have hlo : (u8s (putB l at_ k v)).length = n := by rw [u8s_length, putB_len _ _ _ _ (by omega)]; omega
          have hz := hbr.frozen (off + (at_ + k))
          have hx := byte_at v k
          have hc : ∃ u, wr.cell? ⟨g, off + (at_ + k), none⟩ = some u := by
            rw [hbr.cell]
            exact ⟨_, List.getElem?_eq_getElem (by simp only [List.length_append]; omega)⟩
          obtain ⟨u, hc⟩ := hc
          have hbs := hbr.set_ (off + (at_ + k)) (bv (lowB (v / 256 ^ k)))
          rw [List.set_append_right _ _ (by omega), show off + (at_ + k) - pre.length = at_ + k from by omega, List.set_append_left _ _ (by omega), u8s_set, putB_step _ _ _ _ (by omega)] at hbs
          have hfs := hfr.setCell (p := ⟨g, off + (at_ + k), none⟩) (fun _ => rfl) (bv (lowB (v / 256 ^ k)))
          clear hbr hlen hpl hlo
          go_wp2
          go_roundw
          case rel => exact ⟨k + 1, by omega, by go_num, hbs, hfs⟩
          case measure => simp [intOf]; omega
        · obtain rfl : k = size := by omega
          go_wp2
          go_ret
          exact ⟨rfl, hbr, hfr⟩

end Go.Proofs.YtekbjcagjkcaiaaDoor
