/- The law WordsOneWay: its walk. -/
import Derived.Test.YtelpdcggpahocaaLw5
import Derived.Test.YtelpdcggpahocaaW5
import Derived.Test.YtelpdcggpahocaaLw1
import Derived.Deep.RegionHeld
namespace Go.Proofs.Ytelpdcggpahocaa
open Go.RowKit
set_option linter.unusedVariables false
set_option linter.unusedSimpArgs false
theorem fall_eq (A A1 A2 : Option Addr) (n c c1 k2 c2 : Nat) (old want mask : List UInt8) (fill : UInt8) (w : World) (hl : old.length = n) (hl1 : want.length = n) (hl2 : mask.length = k2)
    (hr : Rd w A (u8s old)) (hr1 : Rd w A1 (u8s want)) (hr2 : Rd w A2 (u8s mask)) (hm : n ≤ 140737488355328) (hm2 : k2 ≤ 140737488355328) (x : Int) (hx : x = (fill.toNat : Int)) :
    Calls Try.prog 31 #[.slice A n c, .slice A1 n c1, .slice A2 k2 c2, .int .u8 x] w fun e w' =>
      ∃ B d, e = .returned (.tuple #[.slice B n d, .int .i64 0]) ∧ Rd w' B (u8s (fallR old want mask fill)) ∧ Below w.heap.size w w' := by
  subst hx
  refine (fall_any A A1 A2 n c n c1 k2 c2 old want mask fill w hl hl1 hl2 hr hr1 hr2 hm hm hm2).mono fun e w' ⟨v, he, hb⟩ => ?_
  rw [if_pos rfl] at he hb
  obtain ⟨B, d, e2, hrd⟩ := hb.rd
  obtain ⟨_, _, _, hbl⟩ := hb
  subst e2
  refine ⟨B, d, ?_, hrd, hbl⟩
  rw [he, show (fallR old want mask fill).length = n from by unfold fallR; rw [gen_len]; exact hl]
theorem rise_eq (A A2 : Option Addr) (n c k2 c2 : Nat) (old mask : List UInt8) (fill : UInt8) (w : World) (hl : old.length = n) (hl2 : mask.length = k2)
    (hr : Rd w A (u8s old)) (hr2 : Rd w A2 (u8s mask)) (hm : n ≤ 140737488355328) (hm2 : k2 ≤ 140737488355328) (x : Int) (hx : x = (fill.toNat : Int)) :
    Calls Try.prog 32 #[.slice A n c, .slice A2 k2 c2, .int .u8 x] w fun e w' => ∃ B d, e = .returned (.slice B n d) ∧ Rd w' B (u8s (riseR old mask fill)) ∧ Below w.heap.size w w' := by
  subst hx
  refine (rise_any A A2 n c k2 c2 old mask fill w hl hl2 hr hr2 hm hm2).mono fun e w' ⟨v, he, hb⟩ => ?_
  obtain ⟨B, d, e2, hrd⟩ := hb.rd
  obtain ⟨_, _, _, hbl⟩ := hb
  subst e2
  refine ⟨B, d, ?_, hrd, hbl⟩
  rw [he, show (riseR old mask fill).length = n from by unfold riseR; rw [gen_len]; exact hl]
theorem ones_eq (n : Nat) (w : World) (hm : n ≤ 140737488355328) :
    Calls Try.prog 34 #[.int .i64 (n : Int)] w fun e w' => ∃ B d, e = .returned (.slice B n d) ∧ Rd w' B (u8s (onesL n)) ∧ Below w.heap.size w w' := by
  refine (ones_any n w hm).mono fun e w' ⟨v, he, hb⟩ => ?_
  obtain ⟨B, d, e2, hrd⟩ := hb.rd
  obtain ⟨_, _, _, hbl⟩ := hb
  subst e2
  refine ⟨B, d, ?_, hrd, hbl⟩
  rw [he, onesL_len]
theorem rise0_any (A : Option Addr) (n c : Nat) (old : List UInt8) (w : World) (hl : old.length = n) (hr : Rd w A (u8s old)) (hm : n ≤ 140737488355328) :
    Calls Try.prog 32 #[.slice A n c, .slice none 0 0, .int .u8 0] w fun e w' => ∃ B d, e = .returned (.slice B n d) ∧ Rd w' B (u8s old) ∧ Below w.heap.size w w' := by
  have h := rise_eq A none n c 0 0 old [] 0 w hl rfl hr (Rd.nil _ _) hm (by decide) 0 rfl
  rw [way_rise0] at h
  exact h
theorem rise255_any (A : Option Addr) (n c : Nat) (old : List UInt8) (w : World) (hl : old.length = n) (hr : Rd w A (u8s old)) (hm : n ≤ 140737488355328) :
    Calls Try.prog 32 #[.slice A n c, .slice none 0 0, .int .u8 255] w fun e w' => ∃ B d, e = .returned (.slice B n d) ∧ Rd w' B (u8s (onesL n)) ∧ Below w.heap.size w w' := by
  have h := rise_eq A none n c 0 0 old [] 255 w hl rfl hr (Rd.nil _ _) hm (by decide) 255 rfl
  rw [way_rise1, hl] at h
  exact h
theorem new_lay6 {wz w1 : World} {o : Obj} {v : Value} (hy : Lay (wz.alloc o) w1 (.slice (some ⟨wz.heap.size, 0, none⟩) 0 0) v) : Frm (fun _ => False) wz w1 :=
  ((Frm.refl (fun _ => False) wz).alloc o).trans2 hy.frm (fun q hq hlt => by cases hq; exact absurd hlt (Nat.lt_irrefl _))
theorem str_at6 {wx : World} {A : Option Addr} {c n : Nat} {l : List UInt8} (hl : l.length = n) (h : Rd wx A (u8s l)) : (convert 22 9 (.slice A n c)).run Try.prog wx = .ok (.string ⟨l.toArray⟩) wx :=
  rd_string 22 9 5 Try.underlying22 Try.underlying5 Try.underlying9 hl h
theorem addr_zero (a : Addr) : a.add 0 = a := by
  obtain ⟨b, o, x⟩ := a
  cases x <;> simp [Addr.add]
theorem sl_to (A : Option Addr) (n0 c n : Nat) (h : n ≤ n0) (hc : n ≤ c) (w : World) : (Instr.slice 22 (.slice A n0 c) none (some (.int .i64 (n : Int))) none).run Try.prog w = .ok (.slice A n c) w := by
  rw [run_slice_h w _ _ _ _ Try.underlying22 .i64 (n : Int) (by omega) (by omega), show (sizeOf (Try.prog.elem 22)).run Try.prog w = .ok 1 w from by kernel_rfl]
  cases A <;> simp [Result.andThen, sliced, addr_zero]
set_option maxRecDepth 100000 in
set_option maxHeartbeats 8000000 in
theorem oneway_walk (w : World) (A0 : Option Addr) (n0 c0 : Nat) (old0 : List UInt8) (hl0 : old0.length = n0) (hr0 : Rd w A0 (u8s old0)) (hm0 : n0 ≤ 140737488351232) (hc0 : n0 ≤ c0)
    (A1 : Option Addr) (n1 c1 : Nat) (want0 : List UInt8) (hl1 : want0.length = n1) (hr1 : Rd w A1 (u8s want0)) (hm1 : n1 ≤ 140737488351232) (hc1 : n1 ≤ c1)
    (A2 : Option Addr) (n2 c2 : Nat) (mask : List UInt8) (hl2 : mask.length = n2) (hr2 : Rd w A2 (u8s mask)) (hm2 : n2 ≤ 140737488351232) (fill : UInt8) :
    Calls Try.prog 10 #[.slice A0 n0 c0, .slice A1 n1 c1, .slice A2 n2 c2, .int .u8 (fill.toNat : Int)] w fun e w' => e = .returned (.bool true) ∧ Below w.heap.size w w' := by
  obtain ⟨n, hn0, hn1, hmin⟩ : ∃ n : Nat, n ≤ n0 ∧ n ≤ n1 ∧ min (n0 : Int) (n1 : Int) = (n : Int) := ⟨min n0 n1, by omega, by omega, by omega⟩
  obtain ⟨old, hlo, hro⟩ : ∃ old : List UInt8, old.length = n ∧ Rd w A0 (u8s old) := ⟨old0.take n, by rw [List.length_take]; omega, by intro hne; exact (show Rd w A0 (u8s (old0.take n)) from hr0.take5) hne⟩
  obtain ⟨want, hlw, hrw⟩ : ∃ want : List UInt8, want.length = n ∧ Rd w A1 (u8s want) := ⟨want0.take n, by rw [List.length_take]; omega, hr1.take5⟩
  have HO := Lib.hid hlo
  have HW := Lib.hid hlw
  have HM := Lib.hid hl2
  clear hl0 hl1 hl2 hr0 hr1 hlo hlw
  go_enter Try.func10, Try.ntmps10
  have hs0 := sl_to A0 n0 c0 n hn0 (by omega)
  have hs1 := sl_to A1 n1 c1 n hn1 (by omega)
  go_wp2
  go_quiet (fail)
  clear hs0 hs1
  have hro0 : Rd (w.drewN nq) A0 (u8s old) := hro
  have hrw0 : Rd (w.drewN nq) A1 (u8s want) := hrw
  have hr20 : Rd (w.drewN nq) A2 (u8s mask) := hr2
  have hb0 : Below w.heap.size w (w.drewN nq) := ⟨rfl, rfl, rfl, Nat.le_refl _, fun _ _ => rfl⟩
  obtain ⟨w0, hw0⟩ : ∃ w0, w0 = w.drewN nq := ⟨_, rfl⟩
  rw [← hw0] at hro0 hrw0 hr20 hb0 ⊢
  clear hw0 hro hrw hr2
  go_wp2_with (first | (go_at_call 31; refine (fall_eq A0 A1 A2 n _ _ n2 _ old want mask fill _ HO.out HW.out HM.out hro0 hrw0 hr20 (by omega) (by omega) _ rfl).mono ?_; rintro e w1 ⟨B1, d1, rfl, ha1, hb1⟩; have hro1 := hro0.below hb1; have hrw1 := hrw0.below hb1; have hr21 := hr20.below hb1; have hbl1 := hb0.trans (hb1.mono hb0.size)) | (go_at_call 32; refine (rise_eq A0 A2 n _ n2 _ old mask fill _ HO.out HM.out hro1 hr21 (by omega) (by omega) _ rfl).mono ?_; rintro e w2 ⟨B2, d2, rfl, hs2, hb2⟩; have hro2 := hro1.below hb2; have hrw2 := hrw1.below hb2; have hr22 := hr21.below hb2; have ha2 := ha1.below hb2; have hbl2 := hbl1.trans (hb2.mono hbl1.size)) | (go_at_call 18; refine (no_any _ _).mono ?_; rintro e w' ⟨rfl, rfl⟩))
  go_loopw [13] (fun i wr => ∃ k : Nat, k ≤ n ∧ i = .int .i64 k ∧ ∃ m, wr = w2.drewN m) (fun i _ => n - (intOf i).toNat)
  case atStart => exact ⟨0, by omega, rfl, 0, rfl⟩
  case round =>
    obtain ⟨k, hk, rfl, m, rfl⟩ := hrel
    by_cases hlt : k < n
    · obtain ⟨ad0, e0, hc0⟩ := hro2.at_ (k := k) (u8s_bt old k (by rw [HO.out]; exact hlt))
      obtain ⟨ad1, e1, hc1⟩ := ha2.at_ (k := k) (u8s_bt (fallR old want mask fill) k (by unfold fallR; rw [gen_len, HO.out]; exact hlt))
      obtain ⟨ad2, e2, hc2⟩ := hs2.at_ (k := k) (u8s_bt (riseR old mask fill) k (by unfold riseR; rw [gen_len, HO.out]; exact hlt))
      rw [show bt (fallR old want mask fill) k = fallB old want mask fill k from by unfold fallR; exact bt_gen _ _ _ (by rw [HO.out]; exact hlt)] at hc1
      rw [show bt (riseR old mask fill) k = riseB old mask fill k from by unfold riseR; exact bt_gen _ _ _ (by rw [HO.out]; exact hlt)] at hc2
      subst e0
      subst e1
      subst e2
      have HF := way_fall0 old want mask fill k
      have HU := way_up0 old mask fill k
      go_wp2
      go_quiet (fail)
      go_wp2
      go_roundw
      case rel => exact ⟨k + 1, by omega, by go_num, _, rfl⟩
      case measure => simp [intOf]; omega
    · obtain rfl : k = n := by omega
      have hro3 : Rd (w2.drewN m) A0 (u8s old) := hro2
      have hrw3 : Rd (w2.drewN m) A1 (u8s want) := hrw2
      have hr23 : Rd (w2.drewN m) A2 (u8s mask) := hr22
      have hbl3 : Below w.heap.size w (w2.drewN m) := ⟨hbl2.os, hbl2.tape, hbl2.output, hbl2.size, hbl2.block⟩
      obtain ⟨w3, hw3⟩ : ∃ w3, w3 = w2.drewN m := ⟨_, rfl⟩
      rw [← hw3] at hro3 hrw3 hr23 hbl3 ⊢
      clear hw3 hro2 hrw2 hr22 hbl2 ha2 hs2 hb1 hb2 hbl1 hro1 hrw1 hr21 ha1 hro0 hrw0 hr20 hb0
      -- REST
      go_wp2_with fail
      with_reducible refine (ones_eq k w3 (by omega)).mono ?_
      rintro e w4 ⟨O4, x4, rfl, ho4, hb4⟩
      replace hro3 := hro3.below hb4
      replace hrw3 := hrw3.below hb4
      replace hr23 := hr23.below hb4
      replace hbl3 := hbl3.trans (hb4.mono hbl3.size)
      clear hb4
      go_wp2_with fail
      with_reducible refine (fall_eq O4 A1 none k x4 c1 0 0 (onesL k) want [] 255 w4 (onesL_len k) HW.out rfl ho4 hrw3 (Rd.nil _ _) (by omega) (by omega) 255 rfl).mono ?_
      rintro e w5 ⟨B5, d5, rfl, hf5, hb5⟩
      replace hro3 := hro3.below hb5
      replace hrw3 := hrw3.below hb5
      replace hr23 := hr23.below hb5
      replace ho4 := ho4.below hb5
      replace hbl3 := hbl3.trans (hb5.mono hbl3.size)
      clear hb5
      clear ho4
      rw [way_whole k want HW.out] at hf5
      go_wp2_with fail
      with_reducible refine (fall_eq A0 A1 none k c0 c1 0 0 old want [] 0 w5 HO.out HW.out rfl hro3 hrw3 (Rd.nil _ _) (by omega) (by omega) 0 rfl).mono ?_
      rintro e w6 ⟨B6, d6, rfl, hf6, hb6⟩
      replace hro3 := hro3.below hb6
      replace hrw3 := hrw3.below hb6
      replace hr23 := hr23.below hb6
      replace hf5 := hf5.below hb6
      replace hbl3 := hbl3.trans (hb6.mono hbl3.size)
      clear hb6
      rw [way_nothing] at hf6
      go_wp2_with fail
      with_reducible refine (ones_eq k w6 (by omega)).mono ?_
      rintro e w7 ⟨O7, x7, rfl, ho7, hb7⟩
      replace hro3 := hro3.below hb7
      replace hrw3 := hrw3.below hb7
      replace hr23 := hr23.below hb7
      replace hf5 := hf5.below hb7
      replace hf6 := hf6.below hb7
      replace hbl3 := hbl3.trans (hb7.mono hbl3.size)
      clear hb7
      go_wp2_with fail
      with_reducible refine (fall_eq O7 A1 A2 k x7 c1 n2 c2 (onesL k) want mask fill w7 (onesL_len k) HW.out HM.out ho7 hrw3 hr23 (by omega) (by omega) _ rfl).mono ?_
      rintro e w8 ⟨B8, d8, rfl, hf8, hb8⟩
      replace hro3 := hro3.below hb8
      replace hrw3 := hrw3.below hb8
      replace hr23 := hr23.below hb8
      replace hf5 := hf5.below hb8
      replace hf6 := hf6.below hb8
      replace ho7 := ho7.below hb8
      replace hbl3 := hbl3.trans (hb8.mono hbl3.size)
      clear hb8
      clear ho7
      go_wp2_with fail
      with_reducible refine (ones_eq k w8 (by omega)).mono ?_
      rintro e w9 ⟨O9, x9, rfl, ho9, hb9⟩
      replace hro3 := hro3.below hb9
      replace hrw3 := hrw3.below hb9
      replace hr23 := hr23.below hb9
      replace hf5 := hf5.below hb9
      replace hf6 := hf6.below hb9
      replace hf8 := hf8.below hb9
      replace hbl3 := hbl3.trans (hb9.mono hbl3.size)
      clear hb9
      have hra : Rd (w9.alloc (.cells #[] 5)) A2 (u8s mask) := hr23.alloc _
      go_wp2_with (first | (at_builtin; refine wpList_app _ rfl (.tmp 114) (.tmp 115) 22 rfl 5 _ 1 1 Try.underlying22 info5 rfl (by decide) rfl (Own.new w9 5 1 0 [] rfl (Nat.zero_le _)) rfl (by rw [u8s_length, HM.out]; exact (Nat.mul_one _).symm) hra (one_u8s mask) (by unfold maxLen; omega) (by omega) ?_; intro v1 w10 sp1 ho1 hy1; simp only [Nat.zero_add, List.nil_append] at ho1) | (at_builtin; refine wpList_app _ rfl (.tmp 116) (.tmp 119) 22 rfl 5 _ 1 1 Try.underlying22 info5 rfl (by decide) rfl (ho1.alloc _) rfl rfl (rd_new w10 5 (u8s [fill, fill])) (one_u8s [fill, fill]) (by unfold maxLen; omega) (by omega) ?_; intro v2 w11 sp2 ho2 hy2; obtain ⟨A9, c9, ev2, _, hrm⟩ := ho2.rd; subst ev2))
      have f1 := fresh_app (B := w9.heap.size) (v := .slice (some ⟨w9.heap.size, 0, none⟩) 0 0) (by simp) (by intro k hk; cases hk; exact Nat.le_refl _) hy1.at_
      have b1 : Below w9.heap.size w9 w10 := below_frm (Below.refl _ w9) (Nat.le_refl _) (new_lay6 hy1) (fun _ h => h.elim)
      have hb11 : Below w9.heap.size w9 w11 := below_frm (b1.alloc b1.size _) (by have := b1.size; simp; omega) hy2.frm (fun k hk => f1 k hk)
      rw [← u8s_append] at hrm
      clear hy1 hy2 f1 b1 ho1 ho2 hra
      replace hro3 := hro3.below hb11
      replace hrw3 := hrw3.below hb11
      replace hr23 := hr23.below hb11
      replace hf5 := hf5.below hb11
      replace hf6 := hf6.below hb11
      replace hf8 := hf8.below hb11
      replace ho9 := ho9.below hb11
      replace hbl3 := hbl3.trans (hb11.mono hbl3.size)
      clear hb11
      go_wp2_with fail
      with_reducible refine (fall_eq O9 A1 A9 k x9 c1 (n2 + 2) c9 (onesL k) want (mask ++ [fill, fill]) fill w11 (onesL_len k) HW.out (by rw [List.length_append, HM.out]; simp) ho9 hrw3 hrm (by omega) (by omega) _ rfl).mono ?_
      rintro e w12 ⟨B12, d12, rfl, hf12, hb12⟩
      replace hro3 := hro3.below hb12
      replace hrw3 := hrw3.below hb12
      replace hr23 := hr23.below hb12
      replace hf5 := hf5.below hb12
      replace hf6 := hf6.below hb12
      replace hf8 := hf8.below hb12
      replace ho9 := ho9.below hb12
      replace hbl3 := hbl3.trans (hb12.mono hbl3.size)
      clear hb12
      clear ho9
      clear hrm
      rw [way_more] at hf12
      have HZ := way_zeros k want mask fill HW.out
      have hPl : (fallR (onesL k) want mask fill).length = k := by unfold fallR; rw [gen_len, onesL_len]
      obtain ⟨pt, hpt⟩ : ∃ pt, pt = fallR (onesL k) want mask fill := ⟨_, rfl⟩
      rw [← hpt] at hf8 hf12 HZ hPl
      clear hpt
      have HP := Lib.hid hPl
      clear hPl
      have q1 : (convert 22 9 (.slice B5 k d5)).run Try.prog w12 = .ok (.string ⟨want.toArray⟩) w12 := str_at6 HW.out hf5
      have q2 : (convert 22 9 (.slice A1 k c1)).run Try.prog w12 = .ok (.string ⟨want.toArray⟩) w12 := str_at6 HW.out hrw3
      have q3 : (convert 22 9 (.slice B6 k d6)).run Try.prog w12 = .ok (.string ⟨old.toArray⟩) w12 := str_at6 HO.out hf6
      have q4 : (convert 22 9 (.slice A0 k c0)).run Try.prog w12 = .ok (.string ⟨old.toArray⟩) w12 := str_at6 HO.out hro3
      have q5 : (convert 22 9 (.slice B12 k d12)).run Try.prog w12 = .ok (.string ⟨pt.toArray⟩) w12 := str_at6 HP.out hf12
      have q6 : (convert 22 9 (.slice B8 k d8)).run Try.prog w12 = .ok (.string ⟨pt.toArray⟩) w12 := str_at6 HP.out hf8
      have hz2 : (zeros pt : Int) ≤ (zeros want : Int) := by have := HZ.1; omega
      have HZ2 := HZ.2
      clear HZ
      go_wp2_with (first | (go_at_call 18; refine (no_any _ _).mono ?_; rintro e w' ⟨rfl, rfl⟩) | (go_at_call 19; refine (zeros_any B8 k d8 pt _ HP.out hf8 (by omega)).mono ?_; rintro e w' ⟨rfl, rfl⟩))
      skip
      have hq2 : (convert 22 9 (.slice A1 k c1)).run Try.prog w12.drew = .ok (.string ⟨want.toArray⟩) w12.drew := str_at6 HW.out hrw3
      have hq6 : (convert 22 9 (.slice B8 k d8)).run Try.prog w12.drew = .ok (.string ⟨pt.toArray⟩) w12.drew := str_at6 HP.out hf8
      have hro4 : Rd w12.drew A0 (u8s old) := hro3
      have hrw4 : Rd w12.drew A1 (u8s want) := hrw3
      have hq4 : (convert 22 9 (.slice A0 k c0)).run Try.prog w12.drew = .ok (.string ⟨old.toArray⟩) w12.drew := str_at6 HO.out hro3
      have hbl4 : Below w.heap.size w w12.drew := ⟨hbl3.os, hbl3.tape, hbl3.output, hbl3.size, hbl3.block⟩
      have HOL : onesL old.length = onesL k := by rw [HO.out]
      have HOL2 := Lib.hid HOL
      clear HOL q1 q2 q3 q4 q5 q6 hf5 hf6 hf12 hr23 hro3 hbl3
      have hk8 : k ≤ 140737488355328 := by omega
      have h84 : Rd w12.drew B8 (u8s pt) := hf8
      by_cases hpw : pt = want
      · subst hpw
        clear HZ2 hz2 hf8 hrw3 hmin hn0 hn1 hlt hk hc0 hc1 hm1 hm2 HM
        go_region_held (fun wx => (convert 22 9 (.slice A0 k c0)).run Try.prog wx = .ok (.string ⟨old.toArray⟩) wx ∧ (convert 22 9 (.slice A1 k c1)).run Try.prog wx = .ok (.string ⟨pt.toArray⟩) wx ∧ (convert 22 9 (.slice B8 k d8)).run Try.prog wx = .ok (.string ⟨pt.toArray⟩) wx) (refine ⟨?_, ?_, ?_⟩ <;> assumption) (first | (go_at_call 19; (with_reducible refine (zeros_any A1 k c1 pt _ HW.out hrw4 hk8).mono ?_); rintro e w' ⟨rfl, rfl⟩; dsimp only) | (go_at_call 32; (with_reducible refine (rise0_any A0 k c0 old _ HO.out hro4 hk8).mono ?_); rintro e w13 ⟨B13, d13, rfl, h13, hb13⟩; have q13 := str_at6 (c := d13) HO.out h13; have hro5 := hro4.below hb13; have hrw5 := hrw4.below hb13; have h8b := h84.below hb13; have q14 := str_at6 (c := c0) HO.out hro5; have q14a := str_at6 (c := c1) HW.out hrw5; have q14b := str_at6 (c := d8) HP.out h8b; have hbl5 := hbl4.trans (hb13.mono hbl4.size); dsimp only) | (go_at_call 32; (with_reducible refine (rise255_any A0 k c0 old _ HO.out hro5 hk8).mono ?_); rintro e w14 ⟨B14, d14, rfl, h14, hb14⟩; have q15 := str_at6 (c := d14) (onesL_len k) h14; have hro6 := hro5.below hb14; have hrw6 := hrw5.below hb14; have h8c := h8b.below hb14; have q15a := str_at6 (c := c1) HW.out hrw6; have q15b := str_at6 (c := d8) HP.out h8c; have q15c := str_at6 (c := c0) HO.out hro6; have hbl6 := hbl5.trans (hb14.mono hbl5.size); dsimp only) | (go_at_call 34; (with_reducible refine (ones_eq k _ hk8).mono ?_); rintro e w15 ⟨B15, d15, rfl, h15, hb15⟩; have q16 := str_at6 (c := d15) (onesL_len k) h15; have h14b := h14.below hb15; have q17 := str_at6 (c := d14) (onesL_len k) h14b; have q16a := str_at6 (c := c1) HW.out (hrw6.below hb15); have q16b := str_at6 (c := d8) HP.out (h8c.below hb15); have q16c := str_at6 (c := c0) HO.out (hro6.below hb15); have hbl7 := hbl6.trans (hb15.mono hbl6.size); dsimp only))
        all_goals
          go_wp2
          go_ret
          exact ⟨rfl, by assumption⟩
      · have hzne : ¬ (zeros pt : Int) = (zeros want : Int) := fun h => hpw (HZ2 (by omega))
        have hsne : ¬ (⟨pt.toArray⟩ : ByteArray) = ⟨want.toArray⟩ := fun h => hpw (by simpa using h)
        have hb1 : ((zeros pt : Int) == (zeros want : Int)) = false := beq_eq_false_iff_ne.mpr hzne
        have hb2 : (pt == want) = false := beq_eq_false_iff_ne.mpr hpw
        have hb3 : ¬ zeros pt = zeros want := fun h => hzne (by rw [h])
        have hb4 : (zeros pt == zeros want) = false := beq_eq_false_iff_ne.mpr hb3
        clear HZ2 hf8 hrw3 hmin hn0 hn1 hlt hk hc0 hc1 hm1 hm2 HM
        go_region_held (fun wx => (convert 22 9 (.slice A0 k c0)).run Try.prog wx = .ok (.string ⟨old.toArray⟩) wx ∧ (convert 22 9 (.slice A1 k c1)).run Try.prog wx = .ok (.string ⟨want.toArray⟩) wx ∧ (convert 22 9 (.slice B8 k d8)).run Try.prog wx = .ok (.string ⟨pt.toArray⟩) wx) (refine ⟨?_, ?_, ?_⟩ <;> assumption) (first | (go_at_call 19; (with_reducible refine (zeros_any A1 k c1 want _ HW.out hrw4 hk8).mono ?_); rintro e w' ⟨rfl, rfl⟩; dsimp only) | (go_at_call 32; (with_reducible refine (rise0_any A0 k c0 old _ HO.out hro4 hk8).mono ?_); rintro e w13 ⟨B13, d13, rfl, h13, hb13⟩; have q13 := str_at6 (c := d13) HO.out h13; have hro5 := hro4.below hb13; have hrw5 := hrw4.below hb13; have h8b := h84.below hb13; have q14 := str_at6 (c := c0) HO.out hro5; have q14a := str_at6 (c := c1) HW.out hrw5; have q14b := str_at6 (c := d8) HP.out h8b; have hbl5 := hbl4.trans (hb13.mono hbl4.size); dsimp only) | (go_at_call 32; (with_reducible refine (rise255_any A0 k c0 old _ HO.out hro5 hk8).mono ?_); rintro e w14 ⟨B14, d14, rfl, h14, hb14⟩; have q15 := str_at6 (c := d14) (onesL_len k) h14; have hro6 := hro5.below hb14; have hrw6 := hrw5.below hb14; have h8c := h8b.below hb14; have q15a := str_at6 (c := c1) HW.out hrw6; have q15b := str_at6 (c := d8) HP.out h8c; have q15c := str_at6 (c := c0) HO.out hro6; have hbl6 := hbl5.trans (hb14.mono hbl5.size); dsimp only) | (go_at_call 34; (with_reducible refine (ones_eq k _ hk8).mono ?_); rintro e w15 ⟨B15, d15, rfl, h15, hb15⟩; have q16 := str_at6 (c := d15) (onesL_len k) h15; have h14b := h14.below hb15; have q17 := str_at6 (c := d14) (onesL_len k) h14b; have q16a := str_at6 (c := c1) HW.out (hrw6.below hb15); have q16b := str_at6 (c := d8) HP.out (h8c.below hb15); have q16c := str_at6 (c := c0) HO.out (hro6.below hb15); have hbl7 := hbl6.trans (hb15.mono hbl6.size); dsimp only))
        all_goals
          go_wp2
          go_ret
          exact ⟨rfl, by assumption⟩
end Go.Proofs.Ytelpdcggpahocaa
