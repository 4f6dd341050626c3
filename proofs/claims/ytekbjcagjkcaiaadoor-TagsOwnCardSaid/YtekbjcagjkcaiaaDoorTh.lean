/- Walks of the helpers of the laws on tags. -/
import Derived.Test.YtekbjcagjkcaiaaDoorRw
import Derived.Test.YtekbjcagjkcaiaaDoorOwn
import Derived.Laws.MakeOwn
namespace Go.Proofs.YtekbjcagjkcaiaaDoor
open Go.RowKit
set_option linter.unusedVariables false
set_option linter.unusedSimpArgs false
def pad (k : Nat) : List UInt8 := List.replicate k 92
theorem pad_len (k : Nat) : (pad k).length = k := List.length_replicate
theorem own_makeg (w : World) (t e : TypeId) (z : Value) (ht : Tryd.prog.underlying t = some (.slice e)) (hinfo : (Tryd.prog.info? e).map (fun i => (i.zero, i.size, i.bytes)) = some (some z, 1, 1)) (c : Nat) (x : Int) (hx : x = c) (hc : c ≤ 281474976710656) :
    ∃ w1 sp, (Instr.makeSlice t (.int .i64 0) (.int .i64 x)).run Tryd.prog w = .ok (.slice (some ⟨w.heap.size, 0, none⟩) 0 c) w1 ∧
    Own w1 e 1 (.slice (some ⟨w.heap.size, 0, none⟩) 0 c) 0 [] sp ∧ Frm (fun _ => False) w w1 := by
  obtain ⟨i, hi, hz, hsize, hby⟩ := info_parts hinfo
  subst hx
  obtain ⟨w1, hrun, hrow, hgr⟩ := run_make_own (P := Tryd.prog) w 0 t e i _ 1 ht hi hz hsize .i64 .i64 c (by rw [hby]; omega) (by unfold maxLen; omega) (Nat.zero_le _)
  obtain ⟨sp, ho⟩ := Own.of_row hrow
  exact ⟨w1, sp, hrun, ho, (Frm.refl _ w).grown hgr (fun k hk => by cases hk)⟩
theorem addr_zero (x : Addr) : x.add 0 = x := by
  cases x <;> simp [Addr.add]
theorem sl_to (A : Option Addr) (n0 c n : Nat) (h : n ≤ c) (w : World) (hc : c ≤ maxLen) : (Instr.slice 22 (.slice A n0 c) none (some (.int .i64 (n : Int))) none).run Tryd.prog w = .ok (.slice A n c) w := by
  unfold maxLen at hc
  rw [run_slice_h w _ _ _ _ Tryd.underlying22 .i64 (n : Int) (by omega) (by omega), show (sizeOf (Tryd.prog.elem 22)).run Tryd.prog w = .ok 1 w from by kernel_rfl]
  cases A <;> simp [Result.andThen, sliced, addr_zero]
theorem Rd.left {w : World} {A : Option Addr} {xs ys : List Value} (h : Rd w A (xs ++ ys)) : Rd w A xs := fun hne => by
  obtain ⟨ad, e, hc⟩ := h (by intro e; exact hne (List.append_eq_nil_iff.mp e).1)
  exact ⟨ad, e, fun j u hu => hc j u (by rw [List.getElem?_append_left (by
    rcases Nat.lt_or_ge j xs.length with hj | hj
    · exact hj
    · rw [List.getElem?_eq_none hj] at hu; cases hu)]; exact hu)⟩
set_option maxRecDepth 100000 in
set_option maxHeartbeats 1600000 in
theorem roomy_any (A : Option Addr) (n c : Nat) (l : List UInt8) (w : World) (hl : l.length = n) (hr : Rd w A (u8s l)) (hm : n ≤ 140737488351232) :
    Calls Tryd.prog 11 #[.slice A n c] w fun e w' => ∃ v sp, e = .returned v ∧ Own w' 5 1 v (n + 70) (u8s (l ++ pad 70)) sp ∧ (∀ q, v.ownBlock = some q → w.heap.size ≤ q) ∧ Below w.heap.size w w' := by
  have HL := Lib.hid hl
  clear hl
  obtain ⟨B, hB⟩ : ∃ B, B = w.heap.size := ⟨_, rfl⟩
  obtain ⟨w1, sp1, hmk, ho1, hf1⟩ := own_makeg w 22 5 _ Tryd.underlying22 info5 (n + 70) ((n : Int) + 70) (by omega) (by omega)
  have hbl1 : Below B w w1 := by rw [hB]; exact hf1.below (Nat.le_refl _) (fun _ _ h => h)
  have hr1 : Rd w1 A (u8s l) := hr.below (hf1.below (Nat.le_refl _) (fun _ _ h => h))
  have hs1 := hf1.size
  rw [← hB] at hmk ho1 hs1
  have HB := Lib.hid hB
  clear hB hf1
  go_enter Tryd.func11, Tryd.ntmps11
  go_wp2_with (at_builtin; refine wpList_app _ rfl (.tmp 9) (.tmp 10) 22 rfl 5 _ 1 1 Tryd.underlying22 info5 rfl (by decide) rfl ho1 rfl (by rw [u8s_length, HL.out]; exact (Nat.mul_one _).symm) hr1 (one_u8s l) (by unfold maxLen; omega) (by omega) ?_; intro v2 w2 sp2 ho2 hy2)
  simp only [Nat.zero_add, List.nil_append] at ho2
  have f2 := fresh_app (B := B) (N := w1.heap.size) hs1 (by intro k hk; cases hk; exact Nat.le_refl _) hy2.at_
  have b2 : Below B w w2 := below_frm hbl1 hs1 hy2.frm (by intro k hk; cases hk; exact Nat.le_refl _)
  clear hy2 ho1 hr1 hbl1 hr
  go_wp2
  go_loopw [3, 4] (fun v i wr => ∃ k : Nat, k ≤ 70 ∧ i = .int .i64 k ∧ (∃ sp, Own wr 5 1 v (n + k) (u8s (l ++ pad k)) sp) ∧ (∀ q, v.ownBlock = some q → B ≤ q) ∧ Below B w wr) (fun _ i _ => 70 - (intI i))
  case atStart => exact ⟨0, by omega, rfl, ⟨sp2, by simpa [pad] using ho2⟩, f2, b2⟩
  case round =>
    obtain ⟨k, hk, rfl, ⟨sp, ho⟩, hfr, hbl⟩ := hrel
    by_cases hlt : k < 70
    · have hsz : B ≤ wr.heap.size := by have := HB.out; rw [this] at hbl ⊢; exact hbl.size
      go_wp2_with (at_builtin; refine wpList_app _ rfl (.tmp 16) (.tmp 17) 22 rfl 5 _ 1 1 Tryd.underlying22 info5 rfl (by decide) rfl (ho.alloc _) rfl rfl (rd_one _ _ _) (one_int _ _) (by unfold maxLen; omega) (by omega) ?_; intro v1 w3 sp3 ho3 hy3)
      have f1 := fresh_app (B := B) (by simp; omega) hfr hy3.at_
      have b1 : Below B w w3 := below_frm (hbl.alloc hsz _) (by simp; omega) hy3.frm (fun q hq => hfr q hq)
      clear ho hy3 hfr hbl
      go_roundw
      case rel => exact ⟨k + 1, by omega, by go_num, ⟨sp3, by rw [show u8s (l ++ pad (k + 1)) = u8s (l ++ pad k) ++ [.int .u8 92] by simp [u8s, bv, pad, List.replicate_succ']]; exact ho3⟩, f1, b1⟩
      case measure => simp [intI]; omega
    · obtain rfl : k = 70 := by omega
      go_wp2
      go_ret
      exact ⟨_, sp, rfl, ho, by rw [← HB.out]; exact hfr, by rw [← HB.out]; exact hbl⟩
theorem no_any (x : Int) (w : World) : Calls Tryd.prog 13 #[.int .i64 x] w fun e w' => e = .returned (.int .i64 x) ∧ w = w' := by
  go_enter Tryd.func13, Tryd.ntmps13
  go_wp2
  go_ret
  exact ⟨rfl, rfl⟩
set_option maxHeartbeats 1600000 in
theorem same_true (A0 A1 : Option Addr) (n c0 c1 : Nat) (l : List UInt8) (w : World) (hl : l.length = n) (h0 : Rd w A0 (u8s l)) (h1 : Rd w A1 (u8s l)) (hm : n ≤ 140737488355328) :
    Calls Tryd.prog 22 #[.slice A0 n c0, .slice A1 n c1] w fun e w' => e = .returned (.bool true) ∧ ∃ m, w' = w.drewN m := by
  have HL := Lib.hid hl
  clear hl
  go_enter Tryd.func22, Tryd.ntmps22
  go_wp2
  go_loopw [5] (fun i wr => ∃ k m : Nat, k ≤ n ∧ i = .int .i64 k ∧ wr = w.drewN m) (fun i _ => n - (intI i))
  case atStart => exact ⟨0, 0, by omega, rfl, rfl⟩
  case round =>
    obtain ⟨k, m, hk, rfl, rfl⟩ := hrel
    by_cases hlt : k < n
    · obtain ⟨ad, rfl, hc⟩ := h0.at_ (k := k) (u8s_bt l k (by have := HL.out; omega))
      obtain ⟨ad1, rfl, hc1⟩ := h1.at_ (k := k) (u8s_bt l k (by have := HL.out; omega))
      go_wp2
      go_quiet (fail)
      go_wp2
      refine ⟨⟨k + 1, _, by omega, by go_num, rfl⟩, ?_⟩
      simp [intI]
      omega
    · obtain rfl : k = n := by omega
      go_wp2
      go_ret
      exact ⟨rfl, _, rfl⟩
theorem pad_bt (l : List UInt8) (n p k : Nat) (hl : l.length = n) (hk : k < p) : (u8s (l ++ pad p))[n + k]? = some (.int .u8 92) := by
  subst hl
  simp [u8s, pad, hk, bv]
set_option maxHeartbeats 1600000 in
theorem kept_any (A0 A1 : Option Addr) (n c0 c1 : Nat) (l : List UInt8) (w : World) (hl : l.length = n) (h0 : Rd w A0 (u8s (l ++ pad 70))) (h1 : Rd w A1 (u8s l)) (hm : n ≤ 140737488351232) :
    Calls Tryd.prog 15 #[.slice A0 (n + 70) c0, .slice A1 n c1] w fun e w' => e = .returned (.bool true) ∧ ∃ m, w' = w.drewN m := by
  have HL := Lib.hid hl
  clear hl
  have h00 : Rd w A0 (u8s l) := by rw [u8s_append] at h0; exact h0.left
  go_enter Tryd.func15, Tryd.ntmps15
  go_wp2
  go_loopw [5] (fun i wr => ∃ k m : Nat, k ≤ n + 70 ∧ i = .int .i64 k ∧ wr = w.drewN m) (fun i _ => n + 70 - (intI i))
  case atStart => exact ⟨0, 0, by omega, rfl, rfl⟩
  case round =>
    obtain ⟨k, m, hk, rfl, rfl⟩ := hrel
    by_cases hlt : k < n + 70
    · have hb0 : (k : Int) < (n : Int) + 70 := by omega
      by_cases hk1 : k < n
      · obtain ⟨ad, rfl, hc⟩ := h00.at_ (k := k) (u8s_bt l k (by have := HL.out; omega))
        obtain ⟨ad1, rfl, hc1⟩ := h1.at_ (k := k) (u8s_bt l k (by have := HL.out; omega))
        have hkn : ¬ n ≤ k := by omega
        go_wp2
        go_quiet (fail)
        go_wp2
        refine ⟨⟨k + 1, _, by omega, by go_num, rfl⟩, ?_⟩
        simp [intI]
        omega
      · obtain ⟨j, rfl⟩ : ∃ j, k = n + j := ⟨k - n, by omega⟩
        obtain ⟨ad, rfl, hc⟩ := h0.at_ (k := n + j) (u := .int .u8 92) (pad_bt l n 70 j HL.out (by omega))
        obtain ⟨q, hq⟩ : ∃ q, q = n + j := ⟨_, rfl⟩
        rw [← hq] at hc hk hk1 hlt hb0 ⊢
        have hqn : n ≤ q := by omega
        clear hq
        go_wp2
        go_quiet (fail)
        go_wp2
        refine ⟨⟨q + 1, _, by omega, by go_num, rfl⟩, ?_⟩
        simp [intI]
        omega
    · obtain rfl : k = n + 70 := by omega
      go_wp2
      go_ret
      exact ⟨rfl, _, rfl⟩
end Go.Proofs.YtekbjcagjkcaiaaDoor
