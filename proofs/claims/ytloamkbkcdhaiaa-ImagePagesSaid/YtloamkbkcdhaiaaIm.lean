/- Walks of roomy, marks, lent (layer image). -/
import Derived.Test.YtloamkbkcdhaiaaPImageChecksx2
import Derived.Test.YtloamkbkcdhaiaaMem
import Derived.Lib.Hide
import Derived.Laws.MakeOwn
import Derived.StillTailTactics
namespace Go.Proofs.Ytloamkbkcdhaiaa
open Go.RowKit Go.Proofs.Ytloamkbkcdhaiaa.PImageChecks Go.Proofs.YtloamkbkcdhaiaaW.PrintWords
set_option linter.unusedVariables false
set_option linter.unusedSimpArgs false
theorem info5 : (Try.prog.info? 5).map (fun i => (i.zero, i.size, i.bytes)) = some (some (.int .u8 0), 1, 1) := by kernel_rfl
theorem info4 : (Try.prog.info? 4).map (fun i => (i.zero, i.size, i.bytes)) = some (some (.bool false), 1, 1) := by kernel_rfl
def ints (l : List Int) : List Value := l.map (Value.int .u8)
def bools (l : List Bool) : List Value := l.map Value.bool
theorem ints_len (l : List Int) : (ints l).length = l.length := by simp [ints]
theorem bools_len (l : List Bool) : (bools l).length = l.length := by simp [bools]
theorem one_ints (l : List Int) : ∀ u ∈ ints l, u.oneCell' = true := by
  intro u hu
  simp only [ints, List.mem_map] at hu
  obtain ⟨x, _, rfl⟩ := hu
  rfl
theorem one_bools (l : List Bool) : ∀ u ∈ bools l, u.oneCell' = true := by
  intro u hu
  simp only [bools, List.mem_map] at hu
  obtain ⟨x, _, rfl⟩ := hu
  rfl
theorem own_makeg (w : World) (t e : TypeId) (z : Value) (ht : Try.prog.underlying t = some (.slice e)) (hinfo : (Try.prog.info? e).map (fun i => (i.zero, i.size, i.bytes)) = some (some z, 1, 1)) (c : Nat) (x : Int) (hx : x = c) (hc : c ≤ 281474976710656) :
    ∃ w1 sp, (Instr.makeSlice t (.int .i64 0) (.int .i64 x)).run Try.prog w = .ok (.slice (some ⟨w.heap.size, 0, none⟩) 0 c) w1 ∧
    Own w1 e 1 (.slice (some ⟨w.heap.size, 0, none⟩) 0 c) 0 [] sp ∧ Frm (fun _ => False) w w1 := by
  obtain ⟨i, hi, hz, hsize, hby⟩ := info_parts hinfo
  subst hx
  obtain ⟨w1, hrun, hrow, hgr⟩ := run_make_own (P := Try.prog) w 0 t e i _ 1 ht hi hz hsize .i64 .i64 c (by rw [hby]; omega) (by unfold maxLen; omega) (Nat.zero_le _)
  obtain ⟨sp, ho⟩ := Own.of_row hrow
  exact ⟨w1, sp, hrun, ho, (Frm.refl _ w).grown hgr (fun k hk => by cases hk)⟩
def intI : Value → Nat
  | .int _ x => x.toNat
  | _ => 0
def pad (k : Nat) : List Int := List.replicate k 92
def padb (k : Nat) : List Bool := List.replicate k true
set_option maxHeartbeats 1600000 in
theorem roomy_any (A : Option Addr) (n c : Nat) (l : List Int) (w : World) (hl : l.length = n) (hr : Rd w A (ints l)) (hm : n ≤ 140737488351232) :
    Calls Try.prog 18 #[.slice A n c] w fun e w' => ∃ v sp, e = .returned v ∧ Own w' 5 1 v (n + 70) (ints (l ++ pad 70)) sp ∧ (∀ q, v.ownBlock = some q → w.heap.size ≤ q) ∧ Below w.heap.size w w' := by
  have HL := Lib.hid hl
  clear hl
  obtain ⟨B, hB⟩ : ∃ B, B = w.heap.size := ⟨_, rfl⟩
  obtain ⟨w1, sp1, hmk, ho1, hf1⟩ := own_makeg w 24 5 _ Try.underlying24 info5 (n + 70) ((n : Int) + 70) (by omega) (by omega)
  have hbl1 : Below B w w1 := by rw [hB]; exact hf1.below (Nat.le_refl _) (fun _ _ h => h)
  have hr1 : Rd w1 A (ints l) := hr.below (hf1.below (Nat.le_refl _) (fun _ _ h => h))
  have hs1 := hf1.size
  rw [← hB] at hmk ho1 hs1
  have HB := Lib.hid hB
  clear hB hf1
  go_enter Try.func18, Try.ntmps18
  go_wp2_with (at_builtin; refine wpList_app _ rfl (.tmp 9) (.tmp 10) 24 rfl 5 _ 1 1 Try.underlying24 info5 rfl (by decide) rfl ho1 rfl (by rw [ints_len, HL.out]; exact (Nat.mul_one _).symm) hr1 (one_ints l) (by unfold maxLen; omega) (by omega) ?_; intro v2 w2 sp2 ho2 hy2)
  simp only [Nat.zero_add, List.nil_append] at ho2
  have f2 := fresh_app (B := B) (N := w1.heap.size) hs1 (by intro k hk; cases hk; exact Nat.le_refl _) hy2.at_
  have b2 : Below B w w2 := below_frm hbl1 hs1 hy2.frm (by intro k hk; cases hk; exact Nat.le_refl _)
  clear hy2 ho1 hr1 hbl1 hr
  go_wp2
  go_loopw [3, 4] (fun v i wr => ∃ k : Nat, k ≤ 70 ∧ i = .int .i64 k ∧ (∃ sp, Own wr 5 1 v (n + k) (ints (l ++ pad k)) sp) ∧ (∀ q, v.ownBlock = some q → B ≤ q) ∧ Below B w wr) (fun _ i _ => 70 - (intI i))
  case atStart => exact ⟨0, by omega, rfl, ⟨sp2, by simpa [pad] using ho2⟩, f2, b2⟩
  case round =>
    obtain ⟨k, hk, rfl, ⟨sp, ho⟩, hfr, hbl⟩ := hrel
    by_cases hlt : k < 70
    · have hsz : B ≤ wr.heap.size := by have := HB.out; rw [this] at hbl ⊢; exact hbl.size
      go_wp2_with (at_builtin; refine wpList_app _ rfl (.tmp 16) (.tmp 17) 24 rfl 5 _ 1 1 Try.underlying24 info5 rfl (by decide) rfl (ho.alloc _) rfl rfl (rd_one _ _ _) (one_int _ _) (by unfold maxLen; omega) (by omega) ?_; intro v1 w3 sp3 ho3 hy3)
      have f1 := fresh_app (B := B) (by simp; omega) hfr hy3.at_
      have b1 : Below B w w3 := below_frm (hbl.alloc hsz _) (by simp; omega) hy3.frm (fun q hq => hfr q hq)
      clear ho hy3 hfr hbl
      go_roundw
      case rel => exact ⟨k + 1, by omega, by go_num, ⟨sp3, by rw [show ints (l ++ pad (k + 1)) = ints (l ++ pad k) ++ [.int .u8 92] by simp [ints, pad, List.replicate_succ']]; exact ho3⟩, f1, b1⟩
      case measure => simp [intI]; omega
    · obtain rfl : k = 70 := by omega
      go_wp2
      go_ret
      exact ⟨_, sp, rfl, ho, by rw [← HB.out]; exact hfr, by rw [← HB.out]; exact hbl⟩
set_option maxHeartbeats 1600000 in
theorem marks_any (A : Option Addr) (n c : Nat) (l : List Bool) (w : World) (hl : l.length = n) (hr : Rd w A (bools l)) (hm : n ≤ 140737488351232) :
    Calls Try.prog 19 #[.slice A n c] w fun e w' => ∃ v sp, e = .returned v ∧ Own w' 4 1 v (n + 9) (bools (l ++ padb 9)) sp ∧ (∀ q, v.ownBlock = some q → w.heap.size ≤ q) ∧ Below w.heap.size w w' := by
  have HL := Lib.hid hl
  clear hl
  obtain ⟨B, hB⟩ : ∃ B, B = w.heap.size := ⟨_, rfl⟩
  obtain ⟨w1, sp1, hmk, ho1, hf1⟩ := own_makeg w 25 4 _ Try.underlying25 info4 (n + 9) ((n : Int) + 9) (by omega) (by omega)
  have hbl1 : Below B w w1 := by rw [hB]; exact hf1.below (Nat.le_refl _) (fun _ _ h => h)
  have hr1 : Rd w1 A (bools l) := hr.below (hf1.below (Nat.le_refl _) (fun _ _ h => h))
  have hs1 := hf1.size
  rw [← hB] at hmk ho1 hs1
  have HB := Lib.hid hB
  clear hB hf1
  go_enter Try.func19, Try.ntmps19
  go_wp2_with (at_builtin; refine wpList_app _ rfl (.tmp 9) (.tmp 10) 25 rfl 4 _ 1 1 Try.underlying25 info4 rfl (by decide) rfl ho1 rfl (by rw [bools_len, HL.out]; exact (Nat.mul_one _).symm) hr1 (one_bools l) (by unfold maxLen; omega) (by omega) ?_; intro v2 w2 sp2 ho2 hy2)
  simp only [Nat.zero_add, List.nil_append] at ho2
  have f2 := fresh_app (B := B) (N := w1.heap.size) hs1 (by intro k hk; cases hk; exact Nat.le_refl _) hy2.at_
  have b2 : Below B w w2 := below_frm hbl1 hs1 hy2.frm (by intro k hk; cases hk; exact Nat.le_refl _)
  clear hy2 ho1 hr1 hbl1 hr
  go_wp2
  go_loopw [3, 4] (fun v i wr => ∃ k : Nat, k ≤ 9 ∧ i = .int .i64 k ∧ (∃ sp, Own wr 4 1 v (n + k) (bools (l ++ padb k)) sp) ∧ (∀ q, v.ownBlock = some q → B ≤ q) ∧ Below B w wr) (fun _ i _ => 9 - (intI i))
  case atStart => exact ⟨0, by omega, rfl, ⟨sp2, by simpa [padb] using ho2⟩, f2, b2⟩
  case round =>
    obtain ⟨k, hk, rfl, ⟨sp, ho⟩, hfr, hbl⟩ := hrel
    by_cases hlt : k < 9
    · have hsz : B ≤ wr.heap.size := by have := HB.out; rw [this] at hbl ⊢; exact hbl.size
      go_wp2_with (at_builtin; refine wpList_app _ rfl (.tmp 16) (.tmp 17) 25 rfl 4 _ 1 1 Try.underlying25 info4 rfl (by decide) rfl (ho.alloc _) rfl rfl (rd_one _ _ _) (by intro u hu; simp only [List.mem_singleton] at hu; subst hu; rfl) (by unfold maxLen; omega) (by omega) ?_; intro v1 w3 sp3 ho3 hy3)
      have f1 := fresh_app (B := B) (by simp; omega) hfr hy3.at_
      have b1 : Below B w w3 := below_frm (hbl.alloc hsz _) (by simp; omega) hy3.frm (fun q hq => hfr q hq)
      clear ho hy3 hfr hbl
      go_roundw
      case rel => exact ⟨k + 1, by omega, by go_num, ⟨sp3, by rw [show bools (l ++ padb (k + 1)) = bools (l ++ padb k) ++ [.bool true] by simp [bools, padb, List.replicate_succ']]; exact ho3⟩, f1, b1⟩
      case measure => simp [intI]; omega
    · obtain rfl : k = 9 := by omega
      go_wp2
      go_ret
      exact ⟨_, sp, rfl, ho, by rw [← HB.out]; exact hfr, by rw [← HB.out]; exact hbl⟩
theorem C_ints {w : World} {A : Option Addr} {n : Nat} {l : List Int} (hl : l.length = n) (hn : n ≤ 9223372036854775807) (h : Rd w A (ints l)) : Kd.C (Kd.int .u8) w A n l := by
  refine ⟨hl, hn, fun h0 => ?_⟩
  obtain ⟨ad, rfl, hc⟩ := h (by rintro e; have := congrArg List.length e; rw [ints_len] at this; simp at this; rw [this] at hl; simp at hl; omega)
  refine ⟨ad, rfl, fun j p hp => ⟨[.int .u8 p], rfl, rfl, fun i u hu => ?_⟩⟩
  match i, hu with
  | 0, hu =>
    cases hu
    have := hc j (.int .u8 p) (by simp [ints, hp])
    simpa [Kd.int, Kd.scalar] using this
theorem C_bools {w : World} {A : Option Addr} {n : Nat} {l : List Bool} (hl : l.length = n) (hn : n ≤ 9223372036854775807) (h : Rd w A (bools l)) : Kd.C Kd.bool w A n l := by
  refine ⟨hl, hn, fun h0 => ?_⟩
  obtain ⟨ad, rfl, hc⟩ := h (by rintro e; have := congrArg List.length e; rw [bools_len] at this; simp at this; rw [this] at hl; simp at hl; omega)
  refine ⟨ad, rfl, fun j p hp => ⟨[.bool p], rfl, rfl, fun i u hu => ?_⟩⟩
  match i, hu with
  | 0, hu =>
    cases hu
    have := hc j (.bool p) (by simp [bools, hp])
    simpa [Kd.bool, Kd.scalar] using this
theorem addr_zeroi (x : Addr) : x.add 0 = x := by
  cases x <;> simp [Addr.add]
theorem sl_toi (A : Option Addr) (n0 c n : Nat) (h : n ≤ n0) (hc : n ≤ c) (w : World) : (Instr.slice 24 (.slice A n0 c) none (some (.int .i64 (n : Int))) none).run Try.prog w = .ok (.slice A n c) w := by
  rw [run_slice_h w _ _ _ _ Try.underlying24 .i64 (n : Int) (by omega) (by omega), show (sizeOf (Try.prog.elem 24)).run Try.prog w = .ok 1 w from by kernel_rfl]
  cases A <;> simp [Result.andThen, sliced, addr_zeroi]
theorem sl_tob (A : Option Addr) (n0 c n : Nat) (h : n ≤ n0) (hc : n ≤ c) (w : World) : (Instr.slice 25 (.slice A n0 c) none (some (.int .i64 (n : Int))) none).run Try.prog w = .ok (.slice A n c) w := by
  rw [run_slice_h w _ _ _ _ Try.underlying25 .i64 (n : Int) (by omega) (by omega), show (sizeOf (Try.prog.elem 25)).run Try.prog w = .ok 1 w from by kernel_rfl]
  cases A <;> simp [Result.andThen, sliced, addr_zeroi]
theorem Rd.left {w : World} {A : Option Addr} {xs ys : List Value} (h : Rd w A (xs ++ ys)) : Rd w A xs := fun hne => by
  obtain ⟨ad, e, hc⟩ := h (by intro e; exact hne (List.append_eq_nil_iff.mp e).1)
  exact ⟨ad, e, fun j u hu => hc j u (by rw [List.getElem?_append_left (by
    rcases Nat.lt_or_ge j xs.length with hj | hj
    · exact hj
    · rw [List.getElem?_eq_none hj] at hu; cases hu)]; exact hu)⟩
theorem ints_app (l m : List Int) : ints (l ++ m) = ints l ++ ints m := by simp [ints]
theorem bools_app (l m : List Bool) : bools (l ++ m) = bools l ++ bools m := by simp [bools]
theorem ints_pad (l : List Int) (n p k : Nat) (hl : l.length = n) (hk : k < p) : (ints (l ++ pad p))[n + k]? = some (.int .u8 92) := by
  subst hl
  simp [ints, pad, hk]
theorem ints_old (l m : List Int) (k : Nat) (hk : k < l.length) : (ints (l ++ m))[k]? = some (.int .u8 l[k]) := by
  rw [ints_app, List.getElem?_append_left (by rw [ints_len]; exact hk)]
  simp [ints, hk]
theorem bools_pad (l : List Bool) (n p k : Nat) (hl : l.length = n) (hk : k < p) : (bools (l ++ padb p))[n + k]? = some (.bool true) := by
  subst hl
  simp [bools, padb, hk]
theorem bools_old (l m : List Bool) (k : Nat) (hk : k < l.length) : (bools (l ++ m))[k]? = some (.bool l[k]) := by
  rw [bools_app, List.getElem?_append_left (by rw [bools_len]; exact hk)]
  simp [bools, hk]
theorem same_true (A0 A1 : Option Addr) (n c0 c1 : Nat) (l : List Int) (w : World) (hl : l.length = n) (h0 : Rd w A0 (ints l)) (h1 : Rd w A1 (ints l)) (hc0 : n ≤ c0) (hc1 : n ≤ c1) (hm : n ≤ 140737488351232) :
    Calls Try.prog 14 #[.slice A0 n c0, .slice A1 n c1] w fun e w' => e = .returned (.bool true) ∧ ∃ m, w' = w.drewN m := by
  have h := shalelaw20_same.calls A0 c0 l A1 c1 l true w (C_ints rfl (by omega) h0) (by omega) (C_ints rfl (by omega) h1) (by omega) (by unfold shalelaw20_same.f; simp)
  rw [hl] at h
  exact h.mono (fun e w' h => ⟨h.1, h.2.out⟩)
set_option maxHeartbeats 1600000 in
theorem kept_any (A0 A1 : Option Addr) (n c0 c1 : Nat) (l : List Int) (w : World) (hl : l.length = n) (h0 : Rd w A0 (ints (l ++ pad 70))) (h1 : Rd w A1 (ints l)) (hc0 : n + 70 ≤ c0) (hc1 : n ≤ c1) (hm : n ≤ 140737488351232) :
    Calls Try.prog 10 #[.slice A0 (n + 70) c0, .slice A1 n c1] w fun e w' => e = .returned (.bool true) ∧ ∃ m, w' = w.drewN m := by
  have hsl := sl_toi A0 (n + 70) c0 n (by omega) (by omega)
  have hS := same_true A0 A1 n c0 c1 l w hl (by rw [ints_app] at h0; exact h0.left) h1 (by omega) hc1 hm
  have HL := Lib.hid hl
  clear hl
  go_enter Try.func10, Try.ntmps10
  go_wp2_with (go_at_call 14; (with_reducible refine hS.mono ?_); rintro e w1 ⟨rfl, m1, rfl⟩)
  clear hS hsl
  go_loopw [5] (fun i wr => ∃ k m : Nat, k ≤ 70 ∧ i = .int .i64 ((n : Int) + k) ∧ wr = w.drewN m) (fun i _ => n + 70 - (intI i))
  case atStart => exact ⟨0, m1, by omega, by simp, rfl⟩
  case round =>
    obtain ⟨k, m, hk, rfl, rfl⟩ := hrel
    by_cases hlt : k < 70
    · obtain ⟨ad, rfl, hc⟩ := h0.at_ (k := n + k) (u := .int .u8 92) (ints_pad l n 70 k HL.out hlt)
      have hq : ((n : Int) + (k : Int)).toNat = n + k := by omega
      have hb1 : (n : Int) + (k : Int) < (n : Int) + 70 := by omega
      have hb2 : 0 ≤ (n : Int) + (k : Int) := by omega
      go_wp2
      refine ⟨⟨k + 1, m, by omega, by congr 1, rfl⟩, ?_⟩
      simp [intI]
      omega
    · obtain rfl : k = 70 := by omega
      go_wp2
      go_ret
      exact ⟨rfl, _, rfl⟩
set_option maxHeartbeats 1600000 in
theorem held_any (A0 A1 : Option Addr) (n c0 c1 : Nat) (l : List Bool) (w : World) (hl : l.length = n) (h0 : Rd w A0 (bools (l ++ padb 9))) (h1 : Rd w A1 (bools l)) (hm : n ≤ 140737488351232) :
    Calls Try.prog 11 #[.slice A0 (n + 9) c0, .slice A1 n c1] w fun e w' => e = .returned (.bool true) ∧ ∃ m, w' = w.drewN m := by
  have HL := Lib.hid hl
  clear hl
  go_enter Try.func11, Try.ntmps11
  go_wp2
  go_loopw [5] (fun i wr => ∃ k m : Nat, k ≤ n + 9 ∧ i = .int .i64 k ∧ wr = w.drewN m) (fun i _ => n + 9 - (intI i))
  case atStart => exact ⟨0, 0, by omega, rfl, rfl⟩
  case round =>
    obtain ⟨k, m, hk, rfl, rfl⟩ := hrel
    by_cases hlt : k < n
    · have hll := HL.out
      obtain ⟨ad, rfl, hc⟩ := h0.at_ (k := k) (bools_old l _ k (by omega))
      obtain ⟨ad1, rfl, hc1⟩ := h1.at_ (k := k) (u := .bool (l[k]'(by omega))) (by simp [bools])
      have hb : k < n + 9 := by omega
      have hnk : ¬ n ≤ k := by omega
      generalize l[k]'(by omega) = x at hc hc1
      clear hll
      go_wp2
      go_quiet (fail)
      go_wp2
      refine ⟨⟨k + 1, _, by omega, by go_num, rfl⟩, ?_⟩
      simp [intI]
      omega
    · by_cases hlt2 : k < n + 9
      · obtain ⟨j, hj⟩ : ∃ j, k = n + j := ⟨k - n, by omega⟩
        obtain ⟨ad, rfl, hc⟩ := h0.at_ (k := k) (u := .bool true) (by rw [hj]; exact bools_pad l n 9 j HL.out (by omega))
        clear hj
        have hge : n ≤ k := by omega
        go_wp2
        go_quiet (fail)
        go_wp2
        refine ⟨⟨k + 1, _, by omega, by go_num, rfl⟩, ?_⟩
        simp [intI]
        omega
      · obtain rfl : k = n + 9 := by omega
        go_wp2
        go_ret
        exact ⟨rfl, _, rfl⟩
end Go.Proofs.Ytloamkbkcdhaiaa
