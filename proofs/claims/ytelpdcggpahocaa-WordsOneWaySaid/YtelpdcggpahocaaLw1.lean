/- The laws' own walks: Puts, Gets, Bits, There. -/
import Derived.Test.YtelpdcggpahocaaW6
namespace Go.Proofs.Ytelpdcggpahocaa
open Go.RowKit
set_option linter.unusedVariables false
set_option linter.unusedSimpArgs false
theorem mks_in {w : World} {g : Nat} {l : List UInt8} {sp : List Value} (h : Blk w g 5 (u8s (l ++ [161, 178, 195]) ++ sp)) : Blk w g 5 ([] ++ (u8s l ++ (u8s [161, 178, 195] ++ sp))) := by
  rw [List.nil_append, ← List.append_assoc, ← u8s_append]; exact h
theorem mks_out {w : World} {g : Nat} {l : List UInt8} {sp : List Value} (h : Blk w g 5 ([] ++ (u8s l ++ (u8s [161, 178, 195] ++ sp)))) : Blk w g 5 (u8s (l ++ [161, 178, 195]) ++ sp) := by
  rw [List.nil_append, ← List.append_assoc, ← u8s_append] at h; exact h
set_option maxHeartbeats 800000 in
theorem no_any (x : Int) (w : World) : Calls Try.prog 18 #[.int .i64 x] w fun e w' => e = .returned (.int .i64 x) ∧ w = w' := by
  go_enter Try.func18, Try.ntmps18
  go_wp2
  go_ret
  exact ⟨rfl, rfl⟩
set_option maxHeartbeats 1600000 in
theorem puts_walk (w : World) (A : Option Addr) (n c : Nat) (l : List UInt8) (hl : l.length = n) (hr : Rd w A (u8s l)) (hm : n ≤ 140737488351232) (at_ : Int) (ha1 : -9223372036854775808 ≤ at_) (ha2 : at_ ≤ 9223372036854775807)
    (size : Int) (hs1 : -9223372036854775808 ≤ size) (hs2 : size ≤ 9223372036854775807) (v : Nat) (hv : v < 18446744073709551616) :
    Calls Try.prog 7 #[.slice A n c, .int .i64 at_, .int .i64 size, .int .u64 (v : Int)] w fun e w' => e = .returned (.bool true) ∧ Below w.heap.size w w' := by
  have HL := Lib.hid hl
  have HV := Lib.hid hv
  clear hl hv
  go_enter Try.func7, Try.ntmps7
  go_wp2_with (go_at_call 11; refine (marked_any _ _ _ l _ HL.out hr hm).mono ?_; rintro e w1 ⟨g, cp, sp, rfl, hb, hcp, hg, hbl⟩)
  go_wp2_with (go_at_call 27; refine (put_any g 0 n cp l [] (u8s [161, 178, 195] ++ sp) at_ size v _ HL.out rfl (mks_in hb) (by omega) HV.out ha1 ha2).mono ?_; rintro e w2 ⟨rfl, hb2, hf2⟩)
  have hbl2 : Below w.heap.size w w2 := below_frm hbl hbl.size hf2 (fun k hk => by rw [hk]; exact hg)
  go_wp2_with (go_at_call 28; refine (refput_any _ _ _ l at_ size v _ HL.out (hr.below hbl2) (by omega) HV.out ha1 ha2).mono ?_; rintro e w3 ⟨u, rfl, hu⟩)
  obtain ⟨Au, cu, eu, hru⟩ := hu.rd
  rw [putR_len, HL.out] at eu
  subst eu
  obtain ⟨_, _, _, hbl3⟩ := hu
  have hb3 := mks_out (hb2.frm (Frm.of_below (ex := fun _ => False) hbl3) (fun h => h))
  have hfin : Below w.heap.size w w3 := hbl2.trans (hbl3.mono hbl2.size)
  clear hb hb2 hf2 hbl hbl2 hbl3 hr
  go_wp2_with (first | (go_at_call 18; refine (no_any _ _).mono ?_; rintro e w' ⟨rfl, rfl⟩) | (go_at_call 13; refine (kept_true g n cp _ Au (putR l at_ size v).1 sp _ (by rw [putR_len]; exact HL.out) hb3 hcp hru (by omega)).mono ?_; rintro e w' ⟨rfl, m, rfl⟩))
  go_ret
  exact ⟨rfl, ⟨hfin.os, hfin.tape, hfin.output, hfin.size, hfin.block⟩⟩

set_option maxHeartbeats 1600000 in
theorem bits_walk (w : World) (A : Option Addr) (n c : Nat) (l : List UInt8) (hl : l.length = n) (hr : Rd w A (u8s l)) (hm : n ≤ 140737488351232) (bit : Int) (ha1 : -9223372036854775808 ≤ bit) (ha2 : bit ≤ 9223372036854775807) :
    Calls Try.prog 5 #[.slice A n c, .int .i64 bit] w fun e w' => e = .returned (.bool true) ∧ Below w.heap.size w w' := by
  have HL := Lib.hid hl
  clear hl
  go_enter Try.func5, Try.ntmps5
  go_wp2_with (go_at_call 11; refine (marked_any _ _ _ l _ HL.out hr hm).mono ?_; rintro e w1 ⟨g, cp, sp, rfl, hb, hcp, hg, hbl⟩)
  have hrc : Rd w1 (some ⟨g, 0, none⟩) (u8s l) := Rd.of_blk (sp := u8s [161, 178, 195] ++ sp) (by have := mks_in hb; rwa [List.nil_append] at this)
  have hr1 := hr.below hbl
  go_wp2_with (first | (go_at_call 19; refine (zeros_any _ _ _ l _ HL.out hrc (by omega)).mono ?_; rintro e w' ⟨rfl, rfl⟩) | (go_at_call 20; refine (refzeros_any _ _ _ l _ HL.out hr1 (by omega)).mono ?_; rintro e w' ⟨rfl, rfl⟩) | (go_at_call 13; refine (kept_true g n cp _ _ l sp _ HL.out hb hcp hr1 (by omega)).mono ?_; rintro e w' ⟨rfl, m, rfl⟩))
  have hb1 : Blk (w1.drewN m) g 5 (u8s (l ++ [161, 178, 195]) ++ sp) := hb
  have hbl1 : Below w.heap.size w (w1.drewN m) := ⟨hbl.os, hbl.tape, hbl.output, hbl.size, hbl.block⟩
  obtain ⟨wx, hwx⟩ : ∃ wx, wx = w1.drewN m := ⟨_, rfl⟩
  rw [← hwx] at hb1 hbl1 ⊢
  clear hwx hb hbl hrc hr1
  go_wp2_with (go_at_call 21; refine (flip_any g 0 n cp l [] (u8s [161, 178, 195] ++ sp) bit _ HL.out rfl (mks_in hb1) (by omega)).mono ?_; rintro e w2 ⟨rfl, hb2, hf2⟩)
  have hbl2 : Below w.heap.size w w2 := below_frm hbl1 hbl1.size hf2 (fun k hk => by rw [hk]; exact hg)
  go_wp2_with (go_at_call 22; refine (refflip_any _ _ _ l bit _ HL.out (hr.below hbl2) (by omega) ha1 ha2).mono ?_; rintro e w3 ⟨u, rfl, hu⟩)
  obtain ⟨Au, cu, eu, hru⟩ := hu.rd
  rw [flipR_len, HL.out] at eu
  subst eu
  obtain ⟨_, _, _, hbl3⟩ := hu
  have hb3 := hb2.frm (Frm.of_below (ex := fun _ => False) hbl3) (fun h => h)
  have hfin : Below w.heap.size w w3 := hbl2.trans (hbl3.mono hbl2.size)
  have hrc3 : Rd w3 (some ⟨g, 0, none⟩) (u8s (flipR l bit).1) := Rd.of_blk (sp := u8s [161, 178, 195] ++ sp) (by have := hb3; rwa [List.nil_append] at this)
  have hr3 := hr.below hfin
  clear hb2 hf2 hbl1 hbl2 hbl3 hb1
  go_wp2_with (first | (go_at_call 18; refine (no_any _ _).mono ?_; rintro e w' ⟨rfl, rfl⟩) | (go_at_call 13; refine (kept_true g n cp _ Au (flipR l bit).1 sp _ (by rw [flipR_len]; exact HL.out) (mks_out hb3) hcp hru (by omega)).mono ?_; rintro e w' ⟨rfl, m, rfl⟩))
  have hb4 : Blk (w3.drewN m) g 5 ([] ++ (u8s (flipR l bit).1 ++ (u8s [161, 178, 195] ++ sp))) := hb3
  have hbl4 : Below w.heap.size w (w3.drewN m) := ⟨hfin.os, hfin.tape, hfin.output, hfin.size, hfin.block⟩
  have hru4 : Rd (w3.drewN m) Au (u8s (flipR l bit).1) := hru
  have hrc4 : Rd (w3.drewN m) (some ⟨g, 0, none⟩) (u8s (flipR l bit).1) := hrc3
  obtain ⟨wx, hwx⟩ : ∃ wx, wx = w3.drewN m := ⟨_, rfl⟩
  rw [← hwx] at hb4 hbl4 hru4 hrc4 ⊢
  clear hwx hb3 hfin hrc3 hr3 hru
  go_wp2_with (first | (go_at_call 19; refine (zeros_any _ _ _ (flipR l bit).1 _ (by rw [flipR_len]; exact HL.out) hrc4 (by omega)).mono ?_; rintro e w' ⟨rfl, rfl⟩) | (go_at_call 20; refine (refzeros_any _ _ _ (flipR l bit).1 _ (by rw [flipR_len]; exact HL.out) hru4 (by omega)).mono ?_; rintro e w' ⟨rfl, rfl⟩) | (go_at_call 21; refine (flip_any g 0 n cp (flipR l bit).1 [] (u8s [161, 178, 195] ++ sp) bit _ (by rw [flipR_len]; exact HL.out) rfl hb4 (by omega)).mono ?_; rintro e w5 ⟨rfl, hb5, hf5⟩))
  rw [(flipR_twice l bit).1] at hb5
  rw [(flipR_twice l bit).2]
  have hbl5 : Below w.heap.size w w5 := below_frm hbl4 hbl4.size hf5 (fun k hk => by rw [hk]; exact hg)
  have hr5 := hr.below hbl5
  clear hb4 hbl4 hru4 hrc4 hf5
  go_wp2_with (first | (go_at_call 18; refine (no_any _ _).mono ?_; rintro e w' ⟨rfl, rfl⟩) | (go_at_call 13; refine (kept_true g n cp _ _ l sp _ HL.out (mks_out hb5) hcp hr5 (by omega)).mono ?_; rintro e w' ⟨rfl, m5, rfl⟩))
  go_ret
  exact ⟨rfl, ⟨hbl5.os, hbl5.tape, hbl5.output, hbl5.size, hbl5.block⟩⟩
end Go.Proofs.Ytelpdcggpahocaa
