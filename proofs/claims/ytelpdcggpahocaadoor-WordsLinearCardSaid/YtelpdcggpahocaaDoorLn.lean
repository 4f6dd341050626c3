/- The law WordsLinear: its walk. -/
import Derived.Test.YtelpdcggpahocaaDoorSw
import Derived.Lib.SlBytesConst
import Derived.Test.YtelpdcggpahocaaDoorSeq
namespace Go.Proofs.YtelpdcggpahocaaDoor
open Go.RowKit
set_option linter.unusedVariables false
set_option linter.unusedSimpArgs false
def x3 (a b c : List UInt8) (i : Nat) : UInt8 := bt a i ^^^ bt b i ^^^ bt c i
theorem x3_bits (a b c : List UInt8) (i : Nat) : Go.bits .xor .u8 (Go.bits .xor .u8 ((bt a i).toNat : Int) ((bt b i).toNat : Int)) ((bt c i).toNat : Int) = ((x3 a b c i).toNat : Int) := by
  rw [u8_xor_b, u8_xor_b]; rfl
theorem Rd.takel {w : World} {A : Option Addr} {l : List UInt8} (h : Rd w A (u8s l)) (n : Nat) : Rd w A (u8s (l.take n)) := fun hne => by
  have hne2 : u8s l ≠ [] := by
    rintro e
    apply hne
    have : l = [] := by cases l with | nil => rfl | cons x r => simp [u8s] at e
    rw [this]; simp [u8s]
  obtain ⟨ad, e, hc⟩ := h hne2
  refine ⟨ad, e, fun j u hu => hc j u ?_⟩
  rw [u8s_get] at hu ⊢
  rcases Nat.lt_or_ge j n with hj | hj
  · rwa [List.getElem?_take, if_pos hj] at hu
  · rw [List.getElem?_take, if_neg (by omega)] at hu; cases hu
theorem addr_zerol (x : Addr) : x.add 0 = x := by
  cases x <;> simp [Addr.add]
theorem sl_tol (A : Option Addr) (n0 c n : Nat) (h : n ≤ n0) (hc : n ≤ c) (w : World) : (Instr.slice 22 (.slice A n0 c) none (some (.int .i64 (n : Int))) none).run Tryd.prog w = .ok (.slice A n c) w := by
  rw [run_slice_h w _ _ _ _ Tryd.underlying22 .i64 (n : Int) (by omega) (by omega), show (sizeOf (Tryd.prog.elem 22)).run Tryd.prog w = .ok 1 w from by kernel_rfl]
  cases A <;> simp [Result.andThen, sliced, addr_zerol]
set_option maxHeartbeats 1600000 in
theorem linear_walk (w : World) (A0 : Option Addr) (n0 c0 : Nat) (a0 : List UInt8) (hl0 : a0.length = n0) (hr0 : Rd w A0 (u8s a0)) (hm0 : n0 ≤ 140737488351232) (hc0 : n0 ≤ c0)
    (A1 : Option Addr) (n1 c1 : Nat) (b0 : List UInt8) (hl1 : b0.length = n1) (hr1 : Rd w A1 (u8s b0)) (hm1 : n1 ≤ 140737488351232) (hc1 : n1 ≤ c1)
    (A2 : Option Addr) (n2 c2 : Nat) (c0' : List UInt8) (hl2 : c0'.length = n2) (hr2 : Rd w A2 (u8s c0')) (hm2 : n2 ≤ 140737488351232) (hc2 : n2 ≤ c2) (hT : Tab w) :
    Calls Tryd.prog 4 #[.slice A0 n0 c0, .slice A1 n1 c1, .slice A2 n2 c2] w fun e w' => e = .returned (.bool true) ∧ Below w.heap.size w w' := by
  obtain ⟨m, hmm⟩ : ∃ m : Nat, m = min n1 n2 := ⟨_, rfl⟩
  obtain ⟨n, hn⟩ : ∃ n : Nat, n = min n0 m := ⟨_, rfl⟩
  have h0 : n ≤ n0 := by omega
  have h1 : n ≤ n1 := by omega
  have h2 : n ≤ n2 := by omega
  have e1 : (if n2 < n1 then (n2 : Int) else (n1 : Int)) = (m : Int) := by split <;> omega
  have e2 : (if m < n0 then (m : Int) else (n0 : Int)) = (n : Int) := by split <;> omega
  clear hn hmm
  obtain ⟨a, hla, hra⟩ : ∃ a : List UInt8, a.length = n ∧ Rd w A0 (u8s a) := ⟨a0.take n, by rw [List.length_take]; omega, hr0.takel n⟩
  obtain ⟨b, hlb, hrb⟩ : ∃ b : List UInt8, b.length = n ∧ Rd w A1 (u8s b) := ⟨b0.take n, by rw [List.length_take]; omega, hr1.takel n⟩
  obtain ⟨c, hlc, hrc⟩ : ∃ c : List UInt8, c.length = n ∧ Rd w A2 (u8s c) := ⟨c0'.take n, by rw [List.length_take]; omega, hr2.takel n⟩
  have HL0 := Lib.hid hla
  have HL1 := Lib.hid hlb
  have HL2 := Lib.hid hlc
  clear hl0 hl1 hl2 hla hlb hlc hr0 hr1 hr2
  go_enter Tryd.func4, Tryd.ntmps4
  go_wp2
  clear e1 e2
  obtain ⟨B, hB⟩ : ∃ B, B = w.heap.size := ⟨_, rfl⟩
  have HB := Lib.hid hB
  have hbl0 : Below B w w := Below.refl _ _
  clear hB
  go_loopw [8, 9] (fun v i wr => ∃ k : Nat, k ≤ n ∧ i = .int .i64 k ∧ (∃ sp, Own wr 5 1 v k (u8s (gen (x3 a b c) k)) sp) ∧ (∀ q, v.ownBlock = some q → B ≤ q) ∧ Below B w wr) (fun _ i _ => n - (intOf i).toNat)
  case atStart => exact ⟨0, by omega, rfl, ⟨[], .inl ⟨rfl, rfl, rfl, rfl⟩⟩, (by intro q hq; cases hq), hbl0⟩
  case round =>
    obtain ⟨k, hk, rfl, ⟨sp, ho⟩, hfr, hbl⟩ := hrel
    have hbW : Below w.heap.size w wr := by rw [← HB.out]; exact hbl
    by_cases hlt : k < n
    · obtain ⟨ad, e0, hc0⟩ := (hra.below hbW).at_ (k := k) (u8s_bt a k (by have := HL0.out; omega))
      obtain rfl := e0
      obtain ⟨ad1, e1, hc1⟩ := (hrb.below hbW).at_ (k := k) (u8s_bt b k (by have := HL1.out; omega))
      obtain rfl := e1
      obtain ⟨ad2, e2, hc2⟩ := (hrc.below hbW).at_ (k := k) (u8s_bt c k (by have := HL2.out; omega))
      obtain rfl := e2
      have hsz : B ≤ wr.heap.size := by rw [HB.out]; exact hbW.size
      have k0 : k < n0 := by omega
      have k1 : k < n1 := by omega
      have k2 : k < n2 := by omega
      have HX := Lib.hid (x3_bits a b c k)
      clear hbW
      go_wp2
      go_region_law (refine step_app _ (by rfl) _ _ 22 (by rfl) 5 _ 1 1 Tryd.underlying22 info5 rfl (by decide) (by rfl) (ho.alloc _).drew (by rfl) (by rfl) (rd_one _ _ _).drew (one_int _ _) (by unfold maxLen; omega) (by omega) ?_; intro v1 w1 sp1 ho2 hy1)
      all_goals
        rw [HX.out] at ho2
        have f1 := fresh_app (B := B) (by simp; omega) hfr hy1.at_
        have b1 : Below B w w1 := below_frm ((hbl.alloc hsz _).drew) (by simp; omega) hy1.frm (fun q hq => hfr q hq)
        clear ho hy1 hfr hbl
        go_wp2
        go_roundw
        case rel => exact ⟨k + 1, by omega, by go_num, ⟨sp1, by rw [gen_succ, u8s_append]; exact ho2⟩, f1, b1⟩
        case measure => simp [intOf]; omega
    · obtain rfl : k = n := by omega
      have hTr := hT.below hbW
      obtain ⟨Ad, cd, ed, _, hrd⟩ := ho.rd
      subst ed
      have r0 := hra.below hbW
      have r1 := hrb.below hbW
      have r2 := hrc.below hbW
      have hcv : (convert 22 22 (.slice (some ⟨wr.heap.size, 0, none⟩) 9 9)).run Tryd.prog (wr.alloc (.cells #[.int .u8 49, .int .u8 50, .int .u8 51, .int .u8 52, .int .u8 53, .int .u8 54, .int .u8 55, .int .u8 56, .int .u8 57] 5)).drew = .ok (.slice (some ⟨wr.heap.size, 0, none⟩) 9 9) ((wr.alloc (.cells #[.int .u8 49, .int .u8 50, .int .u8 51, .int .u8 52, .int .u8 53, .int .u8 54, .int .u8 55, .int .u8 56, .int .u8 57] 5 (9, 10))).drew) :=
        Lib.run_convert_bytes_const wr.drew 22 5 #[.int .u8 49, .int .u8 50, .int .u8 51, .int .u8 52, .int .u8 53, .int .u8 54, .int .u8 55, .int .u8 56, .int .u8 57] 9 9 Tryd.underlying22 Tryd.underlying5
      have hbW2 : Below w.heap.size w ((wr.alloc (.cells #[.int .u8 49, .int .u8 50, .int .u8 51, .int .u8 52, .int .u8 53, .int .u8 54, .int .u8 55, .int .u8 56, .int .u8 57] 5 (9, 10))).drew) := by
        have h := hbW.alloc hbW.size (.cells #[.int .u8 49, .int .u8 50, .int .u8 51, .int .u8 52, .int .u8 53, .int .u8 54, .int .u8 55, .int .u8 56, .int .u8 57] 5 (9, 10))
        exact ⟨h.os, h.tape, h.output, h.size, h.block⟩
      have hlit : Rd ((wr.alloc (.cells #[.int .u8 49, .int .u8 50, .int .u8 51, .int .u8 52, .int .u8 53, .int .u8 54, .int .u8 55, .int .u8 56, .int .u8 57] 5 (9, 10))).drew) (some ⟨wr.heap.size, 0, none⟩) (u8s [49, 50, 51, 52, 53, 54, 55, 56, 57]) := by
        intro _
        refine ⟨_, rfl, fun j u hu => ?_⟩
        have hk := cell_of_row (wr.alloc (.cells #[.int .u8 49, .int .u8 50, .int .u8 51, .int .u8 52, .int .u8 53, .int .u8 54, .int .u8 55, .int .u8 56, .int .u8 57] 5 (9, 10))) wr.heap.size j #[.int .u8 49, .int .u8 50, .int .u8 51, .int .u8 52, .int .u8 53, .int .u8 54, .int .u8 55, .int .u8 56, .int .u8 57] 5 (9, 10) (heap_alloc_new wr _)
        rw [← hu, Addr.add_lit, Nat.zero_add, show u8s [49, 50, 51, 52, 53, 54, 55, 56, 57] = (#[.int .u8 49, .int .u8 50, .int .u8 51, .int .u8 52, .int .u8 53, .int .u8 54, .int .u8 55, .int .u8 56, .int .u8 57] : Array Value).toList from rfl, Array.getElem?_toList]
        exact hk
      have hdl : (gen (x3 a b c) k).length = k := gen_len _ _
      have hT2 := hT.below hbW2
      have hcrc := crc_three a b c (gen (x3 a b c) k) k HL0.out HL1.out HL2.out hdl (fun i hi => bt_gen _ _ _ hi)
      obtain ⟨W2, hW2⟩ : ∃ W2, W2 = ((wr.alloc (.cells #[.int .u8 49, .int .u8 50, .int .u8 51, .int .u8 52, .int .u8 53, .int .u8 54, .int .u8 55, .int .u8 56, .int .u8 57] 5 (9, 10))).drew) := ⟨_, rfl⟩
      have rdd : Rd W2 Ad (u8s (gen (x3 a b c) k)) := by
        rw [hW2]; exact hrd.alloc _
      rw [← hW2] at hcv hbW2 hlit hT2
      have SL := sum_any _ 9 9 _ W2 rfl hlit (by decide) hT2
      rw [show ((crcN [49, 50, 51, 52, 53, 54, 55, 56, 57] : Nat) : Int) = 3421780262 by rw [crc_known]; rfl] at SL
      have SN : ∀ m, Calls Tryd.prog 6 #[.slice none 0 0] (W2.drewN m) fun e w'' => e = .returned (.int .u32 0) ∧ ∃ q, w'' = W2.drewN q := fun m => (sum_any none 0 0 [] (W2.drewN m) rfl (Rd.nil _ _) (by decide) hT2).mono (fun e w' h => ⟨by rw [h.1, crc_nil]; rfl, m, h.2.symm⟩)
      have SD : ∀ m, Calls Tryd.prog 6 #[.slice Ad k cd] (W2.drewN m) fun e w'' => e = .returned (.int .u32 ((crcN (gen (x3 a b c) k) : Nat) : Int)) ∧ ∃ q, w'' = W2.drewN q := fun m => (sum_any Ad k cd (gen (x3 a b c) k) (W2.drewN m) hdl (Rd.drewN rdd m) (by omega) hT2).mono (fun e w' h => ⟨h.1, m, h.2.symm⟩)
      have S0 : ∀ m, Calls Tryd.prog 6 #[.slice A0 k c0] (W2.drewN m) fun e w'' => e = .returned (.int .u32 ((crcN a : Nat) : Int)) ∧ ∃ q, w'' = W2.drewN q := fun m => (sum_any A0 k c0 a (W2.drewN m) HL0.out (Rd.drewN (hra.below hbW2) m) (by omega) hT2).mono (fun e w' h => ⟨h.1, m, h.2.symm⟩)
      have S1 : ∀ m, Calls Tryd.prog 6 #[.slice A1 k c1] (W2.drewN m) fun e w'' => e = .returned (.int .u32 ((crcN b : Nat) : Int)) ∧ ∃ q, w'' = W2.drewN q := fun m => (sum_any A1 k c1 b (W2.drewN m) HL1.out (Rd.drewN (hrb.below hbW2) m) (by omega) hT2).mono (fun e w' h => ⟨h.1, m, h.2.symm⟩)
      have S2 : ∀ m, Calls Tryd.prog 6 #[.slice A2 k c2] (W2.drewN m) fun e w'' => e = .returned (.int .u32 ((crcN c : Nat) : Int)) ∧ ∃ q, w'' = W2.drewN q := fun m => (sum_any A2 k c2 c (W2.drewN m) HL2.out (Rd.drewN (hrc.below hbW2) m) (by omega) hT2).mono (fun e w' h => ⟨h.1, m, h.2.symm⟩)
      have l0 := crcN_lt a
      have l1 := crcN_lt b
      have l2 := crcN_lt c
      have hx : Go.bits .xor .u32 (Go.bits .xor .u32 ((crcN a : Nat) : Int) ((crcN b : Nat) : Int)) ((crcN c : Nat) : Int) = ((crcN (gen (x3 a b c) k) : Nat) : Int) := by
        rw [u32_xor_nat _ _ l0 l1, u32_xor_nat _ _ (xor_lt l0 l1) l2, hcrc]
      have hs0 := sl_tol A0 n0 c0 k h0 (by omega)
      have hs1 := sl_tol A1 n1 c1 k h1 (by omega)
      have hs2 := sl_tol A2 n2 c2 k h2 (by omega)
      clear hcrc hdl rdd hlit hrd r0 r1 r2 ho hfr hbl hTr hbW l0 l1 l2 hT2 hra hrb hrc hT
      generalize crcN (gen (x3 a b c) k) = xd at SD hx
      generalize crcN a = xa at S0 hx
      generalize crcN b = xb at S1 hx
      generalize crcN c = xc at S2 hx
      clear hW2
      go_wp2
      refine wp_region_seq_quiet 3 (by kernel_rfl) (by kernel_rfl) ?_
      simp only [List.take_succ_cons, List.take_zero, List.drop_succ_cons, List.drop_zero]
      change wpList _ _ _ _ _ wr.drew
      go_wp2_with (go_at_call 6; (with_reducible refine SL.mono ?_); rintro e w' ⟨rfl, rfl⟩)
      change wpQuiet _ _ _ _ _ _
      repeat (quiet_step (first | (with_reducible exact SN _) | (with_reducible exact SD _) | (with_reducible exact S0 _) | (with_reducible exact S1 _) | (with_reducible exact S2 _)))
      refine wpQuiet_nil ?_
      rintro w' ⟨nq, rfl⟩
      go_wp2
      go_ret
      exact ⟨rfl, ⟨hbW2.os, hbW2.tape, hbW2.output, hbW2.size, hbW2.block⟩⟩
end Go.Proofs.YtelpdcggpahocaaDoor
