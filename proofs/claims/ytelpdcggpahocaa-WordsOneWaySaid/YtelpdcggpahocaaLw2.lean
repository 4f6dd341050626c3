/- The law WordsGets: its walk. -/
import Derived.Test.YtelpdcggpahocaaLw1
namespace Go.Proofs.Ytelpdcggpahocaa
open Go.RowKit
set_option linter.unusedVariables false
set_option linter.unusedSimpArgs false

theorem below_drewN {B : Nat} {w w1 : World} (h : Below B w w1) (m : Nat) : Below B w (w1.drewN m) := ⟨h.os, h.tape, h.output, h.size, h.block⟩
theorem chg_len (l : List UInt8) : (l.map chg).length = l.length := by simp
set_option maxHeartbeats 1600000 in
theorem gets_walk (w : World) (A : Option Addr) (n c : Nat) (l : List UInt8) (hl : l.length = n) (hr : Rd w A (u8s l)) (hm : n ≤ 140737488351232) (at_ : Int) (ha1 : -9223372036854775808 ≤ at_) (ha2 : at_ ≤ 9223372036854775807)
    (size : Int) (hs1 : -9223372036854775808 ≤ size) (hs2 : size ≤ 9223372036854775807) :
    Calls Try.prog 4 #[.slice A n c, .int .i64 at_, .int .i64 size] w fun e w' => e = .returned (.bool true) ∧ Below w.heap.size w w' := by
  have HL := Lib.hid hl
  clear hl
  go_enter Try.func4, Try.ntmps4
  go_wp2_with (go_at_call 11; refine (marked_any _ _ _ l _ HL.out hr hm).mono ?_; rintro e w1 ⟨g, cp, sp, rfl, hb, hcp, hg, hbl⟩)
  have hrc : Rd w1 (some ⟨g, 0, none⟩) (u8s l) := Rd.of_blk (sp := u8s [161, 178, 195] ++ sp) (by have := mks_in hb; rwa [List.nil_append] at this)
  have hr1 := hr.below hbl
  go_wp2_with (first | (go_at_call 16; refine (get_any _ _ _ at_ size l _ HL.out hrc (by omega) ha1 ha2).mono ?_; rintro e w' ⟨rfl, rfl⟩) | (go_at_call 17; refine (refget_any _ _ _ at_ size l _ HL.out hr1 (by omega) ha1 ha2).mono ?_; rintro e w' ⟨rfl, rfl⟩) | (go_at_call 18; refine (no_any _ _).mono ?_; rintro e w' ⟨rfl, rfl⟩) | (go_at_call 13; refine (kept_true g n cp _ _ l sp _ HL.out hb hcp hr1 (by omega)).mono ?_; rintro e w' ⟨rfl, m, rfl⟩))
  have hb1 := mks_in (w := w1.drewN m) hb
  rw [List.nil_append] at hb1
  have hbl1 := below_drewN hbl m
  obtain ⟨wx, hwx⟩ : ∃ wx, wx = w1.drewN m := ⟨_, rfl⟩
  rw [← hwx] at hb1 hbl1 ⊢
  clear hwx hb hbl hrc hr1
  go_wp2_with (go_at_call 14; refine (changed_any _ g n cp l (u8s [161, 178, 195] ++ sp) _ HL.out (fun _ => rfl) hb1 (by omega)).mono ?_; rintro e w2 ⟨rfl, hb2, hf2⟩)
  have hbl2 : Below w.heap.size w w2 := below_frm hbl1 hbl1.size hf2 (fun k hk => by rw [hk]; exact hg)
  have hrc2 : Rd w2 (some ⟨g, 0, none⟩) (u8s (l.map chg)) := Rd.of_blk hb2
  have hlc : (l.map chg).length = n := by rw [chg_len]; exact HL.out
  have HLC := Lib.hid hlc
  clear hb1 hbl1 hf2 hlc
  have hra : Rd (w2.alloc (.cells #[] 5)) (some ⟨g, 0, none⟩) (u8s (l.map chg)) := Rd.of_blk (hb2.alloc _)
  go_wp2_with (first | (go_at_call 16; refine (get_any _ _ _ at_ size (l.map chg) _ HLC.out hrc2 (by omega) ha1 ha2).mono ?_; rintro e w' ⟨rfl, rfl⟩) | (at_builtin; refine wpList_app _ rfl _ _ 22 rfl 5 _ 1 1 Try.underlying22 info5 rfl (by decide) rfl (Own.new w2 5 1 0 [] rfl (Nat.zero_le _)) rfl ?_ hra (one_u8s (l.map chg)) ?_ ?_ ?_))
  · rw [u8s_length, HLC.out]; omega
  · unfold maxLen; omega
  · omega
  · intro v3 w3 sp3 ho3 hy3
    have b3 : Below w.heap.size w w3 := below_frm (hbl2.alloc hbl2.size (.cells #[] 5)) (by have := hbl2.size; simp; omega) hy3.frm (by intro k hk; cases hk; exact hbl2.size)
    obtain ⟨A3, c3, rfl, hc3, hr3⟩ := ho3.rd
    clear ho3 hy3 hra hrc2 hb2
    go_wp2_with (first | (go_at_call 17; refine (refget_any _ _ _ at_ size (l.map chg) _ HLC.out hr3 (by omega) ha1 ha2).mono ?_; rintro e w' ⟨rfl, rfl⟩) | (go_at_call 18; refine (no_any _ _).mono ?_; rintro e w' ⟨rfl, rfl⟩))
    go_ret
    exact ⟨rfl, b3⟩
end Go.Proofs.Ytelpdcggpahocaa
