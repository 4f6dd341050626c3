/- The law WordsSums: its walk. -/
import Derived.Test.YtelpdcggpahocaaDoorSw
namespace Go.Proofs.YtelpdcggpahocaaDoor
open Go.RowKit
set_option linter.unusedVariables false
set_option linter.unusedSimpArgs false
theorem mks_ins {w : World} {g : Nat} {l : List UInt8} {sp : List Value} (h : Blk w g 5 (u8s (l ++ [161, 178, 195]) ++ sp)) : Blk w g 5 (u8s l ++ (u8s [161, 178, 195] ++ sp)) := by
  rw [← List.append_assoc, ← u8s_append]; exact h
theorem new_lays {wz w1 : World} {o : Obj} {v : Value} (hy : Lay (wz.alloc o) w1 (.slice (some ⟨wz.heap.size, 0, none⟩) 0 0) v) : Frm (fun _ => False) wz w1 :=
  ((Frm.refl (fun _ => False) wz).alloc o).trans2 hy.frm (fun q hq hlt => by cases hq; exact absurd hlt (Nat.lt_irrefl _))
set_option maxHeartbeats 1600000 in
theorem sums_walk (w : World) (A0 : Option Addr) (n c0 : Nat) (l : List UInt8) (hl : l.length = n) (hr0 : Rd w A0 (u8s l)) (hm : n ≤ 140737488351232) (hT : Tab w) :
    Calls Tryd.prog 3 #[.slice A0 n c0] w fun e w' => e = .returned (.bool true) ∧ Below w.heap.size w w' := by
  have HL := Lib.hid hl
  clear hl
  go_enter Tryd.func3, Tryd.ntmps3
  go_wp2_with fail
  with_reducible refine (marked_any A0 n c0 l w HL.out hr0 hm).mono ?_
  rintro e w1 ⟨g, cp, sp, rfl, hb, hcp, hg, hbl⟩
  have hrc : Rd w1 (some ⟨g, 0, none⟩) (u8s l) := Rd.of_blk (mks_ins hb)
  have hT1 := hT.below hbl
  go_wp2_with fail
  with_reducible refine (sum_any _ n cp l w1 HL.out hrc (by omega) hT1).mono ?_
  rintro e w' ⟨rfl, rfl⟩
  go_wp2_with fail
  with_reducible refine (refsum_any A0 n c0 l w1 HL.out (hr0.below hbl) (by omega)).mono ?_
  rintro e w' ⟨rfl, rfl⟩
  go_wp2_with fail
  with_reducible refine (kept_true g n cp c0 A0 l sp w1 HL.out hb hcp (hr0.below hbl) hm).mono ?_
  rintro e w4 ⟨rfl, m4, hw4⟩
  replace hb : Blk w4 g 5 (u8s (l ++ [161, 178, 195]) ++ sp) := by rw [hw4]; exact hb
  replace hbl : Below w.heap.size w w4 := by rw [hw4]; exact ⟨hbl.os, hbl.tape, hbl.output, hbl.size, hbl.block⟩
  clear hw4 hrc hT1
  go_wp2_with fail
  with_reducible refine (changed_any _ g n cp l (u8s [161, 178, 195] ++ sp) w4 HL.out (fun _ => rfl) (mks_ins hb) (by omega)).mono ?_
  rintro e w5 ⟨rfl, hd, hf⟩
  replace hbl := below_frm hbl hbl.size hf (fun k hk => by rw [hk]; exact hg)
  clear hf hb
  have M0 : (l.map chg).length = n := by rw [List.length_map]; exact HL.out
  have HM := Lib.hid M0
  clear M0
  have hrd : Rd w5 (some ⟨g, 0, none⟩) (u8s (l.map chg)) := Rd.of_blk hd
  have hT5 := hT.below hbl
  go_wp2_with fail
  with_reducible refine (sum_any _ n cp (l.map chg) w5 HM.out hrd (by omega) hT5).mono ?_
  rintro e w' ⟨rfl, rfl⟩
  clear hT5
  have hrd2 : Rd (w5.alloc (.cells #[] 5)) (some ⟨g, 0, none⟩) (u8s (l.map chg)) := hrd.alloc _
  go_wp2_with (at_builtin; refine wpList_app _ rfl (.tmp 21) (.tmp 22) 22 rfl 5 _ 1 1 Tryd.underlying22 info5 rfl (by decide) rfl (Own.new w5 5 1 0 [] rfl (Nat.zero_le _)) rfl (by rw [u8s_length, HM.out]; exact (Nat.mul_one _).symm) hrd2 (one_u8s (l.map chg)) (by unfold maxLen; omega) (by omega) ?_; intro v1 w6 sp1 ho1 hy1; simp only [Nat.zero_add, List.nil_append] at ho1; have fy := new_lays hy1; obtain ⟨U, d1, eu, _, hrU⟩ := ho1.rd; subst eu)
  replace hbl := below_frm hbl hbl.size fy (fun _ h => h.elim)
  clear hy1 fy hrd hrd2 ho1
  with_reducible refine (refsum_any U n d1 (l.map chg) w6 HM.out hrU (by omega)).mono ?_
  rintro e w' ⟨rfl, rfl⟩
  go_wp2
  go_ret
  exact ⟨rfl, hbl⟩
end Go.Proofs.YtelpdcggpahocaaDoor
