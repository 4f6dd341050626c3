/- Walks of Clone, Fall, Rise, and of the document's Flip, Put, Fall, Rise. -/
import Derived.Test.YtelpdcggpahocaaW3
namespace Go.Proofs.Ytelpdcggpahocaa
open Go.RowKit
set_option linter.unusedVariables false
set_option linter.unusedSimpArgs false

theorem NewB.blk {w w1 : World} {v : Value} {l : List UInt8} {n : Nat} (h : NewB w w1 v l) (hl : l.length = n) (hn : 0 < n) :
    ∃ g cap sp, v = .slice (some ⟨g, 0, none⟩) n cap ∧ Blk w1 g 5 (u8s l ++ sp) ∧ w.heap.size ≤ g ∧ n ≤ cap ∧
      (∀ w2 l', l'.length = n → Blk w2 g 5 (u8s l' ++ sp) → Frm (· = g) w1 w2 → NewB w w2 (.slice (some ⟨g, 0, none⟩) n cap) l') := by
  subst hl
  obtain ⟨sp, ho, hf, hb⟩ := h
  obtain ⟨g, cap, rfl, hblk, h1, h2, h3, h4⟩ := ho.blk hn
  refine ⟨g, cap, sp, rfl, hblk, hf g rfl, h3, fun w2 l' hl hb2 hfr => ⟨sp, .inr ⟨g, cap, by rw [hl], hb2, by rw [u8s_length, hl]; simp, ?_, by rw [hl]; exact h3, h4⟩, hf, ?_⟩⟩
  · rw [u8s_length, hl, ← u8s_length]; exact h2
  · exact below_frm hb hb.size hfr (fun k hk => by rw [hk]; exact hf g rfl)
theorem NewB.frm {w w1 w2 : World} {v : Value} {l : List UInt8} {ex : Nat → Prop} (h : NewB w w1 v l) (hf : Frm ex w1 w2) (hx : ∀ k, v.ownBlock = some k → ¬ ex k) (hb : ∀ k, ex k → w.heap.size ≤ k) : NewB w w2 v l := by
  obtain ⟨sp, ho, hfr, hbl⟩ := h
  exact ⟨sp, ho.frm hf hx, hfr, below_frm hbl hbl.size hf hb⟩
theorem NewB.drew {w w1 : World} {v : Value} {l : List UInt8} (h : NewB w w1 v l) : NewB w w1.drew v l := h.frm ((Frm.refl (fun _ => False) w1).drew) (fun _ _ h => h) (fun _ h => h.elim)
theorem NewB.nil (w : World) : NewB w w (.slice none 0 0) [] := ⟨[], .inl ⟨rfl, rfl, rfl, rfl⟩, (fun _ h => by cases h), Below.refl _ _⟩

theorem back_same {P : Program} {f : FuncId} {args : Array Value} {w : World} {v : Value} (h : Calls P f args w (fun e w' => e = .returned v ∧ w = w')) : Calls P f args w (fun e w' => e = .returned v ∧ w' = w) :=
  h.mono fun _ _ h => ⟨h.1, h.2.symm⟩

set_option maxHeartbeats 800000 in
theorem clone_any (A : Option Addr) (n cap : Nat) (l : List UInt8) (w : World) (hl : l.length = n) (hr : Rd w A (u8s l)) (hm : n ≤ 140737488355328) :
    Calls Try.prog 42 #[.slice A n cap] w fun e w' => ∃ v, e = .returned v ∧ NewB w w' v l := by
  have HL := Lib.hid hl
  clear hl
  have h0 : Own (w.alloc (.cells #[] 5)) 5 1 (.slice (some ⟨w.heap.size, 0, none⟩) 0 0) 0 [] [] := Own.new w 5 1 0 [] rfl (Nat.zero_le _)
  have hr1 : Rd (w.alloc (.cells #[] 5)) A (u8s l) := hr.below ((Below.refl _ _).alloc (Nat.le_refl _) _)
  rcases A with _ | ad
  · have hnil : l = [] := by
      cases l with
      | nil => rfl
      | cons x r =>
        obtain ⟨ad, h', _⟩ := hr (by simp [u8s])
        cases h'
    subst hnil
    have hn := HL.out
    simp only [List.length_nil] at hn
    subst hn
    have heq := fun (wx : World) => Lib.run_eql_slice_nil (P := Try.prog) wx 22 5 none 0 cap 0 0 Try.underlying22
    simp only [Option.isNone_none] at heq
    go_enter Try.func42, Try.ntmps42
    go_wp2
    go_ret
    exact ⟨_, rfl, NewB.nil w⟩
  · have heq := fun (wx : World) => Lib.run_eql_slice_nil (P := Try.prog) wx 22 5 (some ad) n cap 0 0 Try.underlying22
    simp only [Option.isNone_some] at heq
    go_enter Try.func42, Try.ntmps42
    go_wp2_with (at_builtin; refine wpList_app _ rfl _ _ 22 rfl 5 _ 1 1 Try.underlying22 info5 rfl (by decide) rfl h0 rfl ?_ hr1 (one_u8s l) ?_ ?_ ?_)
    · have := HL.out; rw [u8s_length]; omega
    · unfold maxLen; omega
    · omega
    · intro v1 w1 sp1 ho1 hy1
      have f1 := fresh_app (B := w.heap.size) (by simp) (by intro k hk; cases hk; exact Nat.le_refl _) hy1.at_
      have b1 : Below w.heap.size w w1 := below_frm ((Below.refl _ w).alloc (Nat.le_refl _) (.cells #[] 5)) (by simp) hy1.frm (by intro k hk; cases hk; exact Nat.le_refl _)
      clear hy1 hr1 h0 hr
      go_wp2
      go_ret
      exact ⟨_, rfl, sp1, by rw [HL.out]; exact ho1, f1, b1⟩

set_option maxHeartbeats 800000 in
theorem laid_any (A : Option Addr) (n cap : Nat) (mask : List UInt8) (fill : UInt8) (i : Nat) (w : World) (hl : mask.length = n) (hr : Rd w A (u8s mask)) (hm : n ≤ 140737488355328) :
    Calls Try.prog 43 #[.slice A n cap, .int .u8 (fill.toNat : Int), .int .i64 (i : Int)] w fun e w' => e = .returned (.int .u8 ((mk mask fill i).toNat : Int)) ∧ w = w' := by
  have HL := Lib.hid hl
  clear hl
  by_cases h : i < n
  · have e : mk mask fill i = bt mask i := by unfold mk; rw [if_pos (by rw [HL.out]; exact h)]
    rw [e]; clear e
    obtain ⟨ad, rfl, hc⟩ := hr.at_ (k := i) (u8s_bt mask i (by rw [HL.out]; exact h))
    go_enter Try.func43, Try.ntmps43
    go_wp2
    go_ret
    exact ⟨rfl, rfl⟩
  · have e : mk mask fill i = fill := by unfold mk; rw [if_neg (by rw [HL.out]; exact h)]
    rw [e]; clear e
    go_enter Try.func43, Try.ntmps43
    go_wp2
    go_ret
    exact ⟨rfl, rfl⟩
set_option maxHeartbeats 800000 in
theorem masked_any (A : Option Addr) (n cap : Nat) (mask : List UInt8) (fill : UInt8) (i : Nat) (w : World) (hl : mask.length = n) (hr : Rd w A (u8s mask)) (hm : n ≤ 140737488355328) :
    Calls Try.prog 41 #[.slice A n cap, .int .u8 (fill.toNat : Int), .int .i64 (i : Int)] w fun e w' => e = .returned (.int .u8 ((mk mask fill i).toNat : Int)) ∧ w = w' := by
  have HL := Lib.hid hl
  clear hl
  by_cases h : i < n
  · have e : mk mask fill i = bt mask i := by unfold mk; rw [if_pos (by rw [HL.out]; exact h)]
    rw [e]; clear e
    obtain ⟨ad, rfl, hc⟩ := hr.at_ (k := i) (u8s_bt mask i (by rw [HL.out]; exact h))
    go_enter Try.func41, Try.ntmps41
    go_wp2
    go_ret
    exact ⟨rfl, rfl⟩
  · have e : mk mask fill i = fill := by unfold mk; rw [if_neg (by rw [HL.out]; exact h)]
    rw [e]; clear e
    go_enter Try.func41, Try.ntmps41
    go_wp2
    go_ret
    exact ⟨rfl, rfl⟩

set_option maxHeartbeats 1600000 in
theorem fall_any (A A1 A2 : Option Addr) (n c m c1 k2 c2 : Nat) (old want mask : List UInt8) (fill : UInt8) (w : World) (hl : old.length = n) (hl1 : want.length = m) (hl2 : mask.length = k2)
    (hr : Rd w A (u8s old)) (hr1 : Rd w A1 (u8s want)) (hr2 : Rd w A2 (u8s mask)) (hm : n ≤ 140737488355328) (hm1 : m ≤ 140737488355328) (hm2 : k2 ≤ 140737488355328) :
    Calls Try.prog 31 #[.slice A n c, .slice A1 m c1, .slice A2 k2 c2, .int .u8 (fill.toNat : Int)] w fun e w' =>
      ∃ v, e = .returned (.tuple #[v, .int .i64 (if n = m then 0 else 10)]) ∧ NewB w w' v (if n = m then fallR old want mask fill else []) := by
  have HL := Lib.hid hl
  have HL1 := Lib.hid hl1
  have HL2 := Lib.hid hl2
  clear hl hl1 hl2
  by_cases hnm : n = m
  · subst hnm
    rw [if_pos rfl, if_pos rfl]
    go_enter Try.func31, Try.ntmps31
    go_wp2_with (go_at_call 42; refine (clone_any _ _ _ old _ HL.out hr hm).mono ?_; rintro e w1 ⟨v, rfl, hv⟩; obtain ⟨Av, cv, rfl, hrv⟩ := hv.rd)
    have hlv := HL.out
    rw [hlv] at hv ⊢
    clear hlv
    obtain ⟨B, hB⟩ : ∃ B, B = w.heap.size := ⟨_, rfl⟩
    have HN := Lib.hid hv
    clear hv
    go_loopw [21] (fun i wr => ∃ k : Nat, k ≤ n ∧ i = .int .i64 k ∧ NewB w wr (.slice Av n cv) (upd (fallB old want mask fill) old k)) (fun i _ => n - (intOf i).toNat)
    case atStart => exact ⟨0, by omega, rfl, by rw [upd_zero]; exact HN.out⟩
    case round =>
      obtain ⟨k, hk, rfl, hv⟩ := hrel
      by_cases hlt : k < n
      · have hlen := HL.out
        have hul := upd_len (fallB old want mask fill) old k (by omega)
        obtain ⟨g, cap, sp, e, hblk, hg, hcap, hback⟩ := hv.blk (n := n) (by omega) (by omega)
        have e' : Av = some ⟨g, 0, none⟩ ∧ cv = cap := by simpa using e
        obtain ⟨rfl, rfl⟩ := e'
        have hb := hv
        obtain ⟨_, _, _, hbl⟩ := hb
        obtain ⟨ad1, e1, hc1⟩ := (hr1.below hbl).at_ (k := k) (u8s_bt want k (by rw [HL1.out]; exact hlt))
        obtain rfl := e1
        have hc0 : wr.cell? ⟨g, k, none⟩ = some (.int .u8 ((bt old k).toNat : Int)) := by
          rw [hblk.cell, List.getElem?_append_left (by rw [u8s_length]; omega), u8s_bt _ _ (by omega), upd_bt _ _ _ (by omega)]
        have hr2' : Rd wr A2 (u8s mask) := hr2.below hbl
        have hz := hblk.frozen k
        have hx : Go.bits .andNot .u8 ((bt old k).toNat : Int) (Go.bits .andNot .u8 ((mk mask fill k).toNat : Int) ((bt want k).toNat : Int)) = ((fallB old want mask fill k).toNat : Int) := fall_bits (bt old k) (mk mask fill k) (bt want k)
        have hbs := hblk.set_ k (bv (fallB old want mask fill k))
        rw [List.set_append_left _ _ (by rw [u8s_length]; omega), u8s_set, upd_set _ _ _ (by omega)] at hbs
        have hfs := (Frm.refl (· = g) wr).setCell (p := ⟨g, k, none⟩) (fun _ => rfl) (bv (fallB old want mask fill k))
        have hnew := hback _ (upd (fallB old want mask fill) old (k + 1)) (by rw [upd_len _ _ _ (by omega)]; omega) hbs hfs
        clear hback hblk hbs hfs hv hbl hul hlen e HN
        go_wp2
        refine wp_region_still_tail 15 (by kernel_rfl) (by kernel_rfl) ?_
        simp only [List.take_succ_cons, List.take_zero, List.drop_succ_cons, List.drop_zero]
        repeat still_step
        still_call (back_same (laid_any _ _ _ mask fill k _ HL2.out hr2'.drew hm2))
        repeat still_step
        refine wpStill_nil ?_
        change wpList _ _ _ _ _ wr.drew
        go_wp2
        go_roundw
        case rel => exact ⟨k + 1, by omega, by go_num, hnew.drew⟩
        case measure => simp [intOf]; omega
      · obtain rfl : k = n := by omega
        go_wp2
        go_ret2
        have hlen := HL.out
        have hu : upd (fallB old want mask fill) old k = fallR old want mask fill := by rw [← hlen, upd_all]; rfl
        rw [hu] at hv
        exact ⟨_, rfl, hv⟩
  · rw [if_neg hnm, if_neg hnm]
    have hne : ¬ (n : Int) = m := by omega
    go_enter Try.func31, Try.ntmps31
    go_wp2
    go_ret2
    exact ⟨_, rfl, NewB.nil w⟩

set_option maxHeartbeats 1600000 in
theorem rise_any (A A2 : Option Addr) (n c k2 c2 : Nat) (old mask : List UInt8) (fill : UInt8) (w : World) (hl : old.length = n) (hl2 : mask.length = k2)
    (hr : Rd w A (u8s old)) (hr2 : Rd w A2 (u8s mask)) (hm : n ≤ 140737488355328) (hm2 : k2 ≤ 140737488355328) :
    Calls Try.prog 32 #[.slice A n c, .slice A2 k2 c2, .int .u8 (fill.toNat : Int)] w fun e w' => ∃ v, e = .returned v ∧ NewB w w' v (riseR old mask fill) := by
  have HL := Lib.hid hl
  have HL2 := Lib.hid hl2
  clear hl hl2
  go_enter Try.func32, Try.ntmps32
  go_wp2_with (go_at_call 42; refine (clone_any _ _ _ old _ HL.out hr hm).mono ?_; rintro e w1 ⟨v, rfl, hv⟩; obtain ⟨Av, cv, rfl, hrv⟩ := hv.rd)
  have hlv := HL.out
  rw [hlv] at hv ⊢
  clear hlv
  have HN := Lib.hid hv
  clear hv
  go_wp2
  go_loopw [13] (fun i wr => ∃ k : Nat, k ≤ n ∧ i = .int .i64 k ∧ NewB w wr (.slice Av n cv) (upd (riseB old mask fill) old k)) (fun i _ => n - (intOf i).toNat)
  case atStart => exact ⟨0, by omega, rfl, by rw [upd_zero]; exact HN.out⟩
  case round =>
    obtain ⟨k, hk, rfl, hv⟩ := hrel
    by_cases hlt : k < n
    · have hlen := HL.out
      have hul := upd_len (riseB old mask fill) old k (by omega)
      obtain ⟨g, cap, sp, e, hblk, hg, hcap, hback⟩ := hv.blk (n := n) (by omega) (by omega)
      have e' : Av = some ⟨g, 0, none⟩ ∧ cv = cap := by simpa using e
      obtain ⟨rfl, rfl⟩ := e'
      have hb := hv
      obtain ⟨_, _, _, hbl⟩ := hb
      have hc0 : wr.cell? ⟨g, k, none⟩ = some (.int .u8 ((bt old k).toNat : Int)) := by
        rw [hblk.cell, List.getElem?_append_left (by rw [u8s_length]; omega), u8s_bt _ _ (by omega), upd_bt _ _ _ (by omega)]
      have hr2' : Rd wr A2 (u8s mask) := hr2.below hbl
      have hz := hblk.frozen k
      have hx : Go.bits .or .u8 ((bt old k).toNat : Int) ((mk mask fill k).toNat : Int) = ((riseB old mask fill k).toNat : Int) := u8_or_b (bt old k) (mk mask fill k)
      have hbs := hblk.set_ k (bv (riseB old mask fill k))
      rw [List.set_append_left _ _ (by rw [u8s_length]; omega), u8s_set, upd_set _ _ _ (by omega)] at hbs
      have hfs := (Frm.refl (· = g) wr).setCell (p := ⟨g, k, none⟩) (fun _ => rfl) (bv (riseB old mask fill k))
      have hnew := hback _ (upd (riseB old mask fill) old (k + 1)) (by rw [upd_len _ _ _ (by omega)]; omega) hbs hfs
      clear hback hblk hbs hfs hv hbl hul hlen e HN
      go_wp2
      refine wp_region_still_tail 10 (by kernel_rfl) (by kernel_rfl) ?_
      simp only [List.take_succ_cons, List.take_zero, List.drop_succ_cons, List.drop_zero]
      repeat still_step
      still_call (back_same (laid_any _ _ _ mask fill k _ HL2.out hr2'.drew hm2))
      repeat still_step
      refine wpStill_nil ?_
      change wpList _ _ _ _ _ wr.drew
      go_wp2
      go_roundw
      case rel => exact ⟨k + 1, by omega, by go_num, hnew.drew⟩
      case measure => simp [intOf]; omega
    · obtain rfl : k = n := by omega
      go_wp2
      go_ret
      have hlen := HL.out
      have hu : upd (riseB old mask fill) old k = riseR old mask fill := by rw [← hlen, upd_all]; rfl
      rw [hu] at hv
      exact ⟨_, rfl, hv⟩

set_option maxHeartbeats 1600000 in
theorem reffall_any (A A1 A2 : Option Addr) (n c m c1 k2 c2 : Nat) (old want mask : List UInt8) (fill : UInt8) (w : World) (hl : old.length = n) (hl1 : want.length = m) (hl2 : mask.length = k2)
    (hr : Rd w A (u8s old)) (hr1 : Rd w A1 (u8s want)) (hr2 : Rd w A2 (u8s mask)) (hm : n ≤ 140737488355328) (hm1 : m ≤ 140737488355328) (hm2 : k2 ≤ 140737488355328) :
    Calls Try.prog 29 #[.slice A n c, .slice A1 m c1, .slice A2 k2 c2, .int .u8 (fill.toNat : Int)] w fun e w' =>
      ∃ v, e = .returned (.tuple #[v, .int .i64 (if n = m then 0 else 10)]) ∧ NewB w w' v (if n = m then fallR old want mask fill else []) := by
  have HL := Lib.hid hl
  have HL1 := Lib.hid hl1
  have HL2 := Lib.hid hl2
  clear hl hl1 hl2
  by_cases hnm : n = m
  · subst hnm
    rw [if_pos rfl, if_pos rfl]
    obtain ⟨B, hB⟩ : ∃ B, B = w.heap.size := ⟨_, rfl⟩
    have HB := Lib.hid hB
    clear hB
    have h0 : Own (w.alloc (.cells #[] 5)) 5 1 (.slice (some ⟨w.heap.size, 0, none⟩) 0 0) 0 [] [] := Own.new w 5 1 0 [] rfl (Nat.zero_le _)
    go_enter Try.func29, Try.ntmps29
    go_wp2
    go_loopw [10, 11] (fun v i wr => ∃ k : Nat, k ≤ n ∧ i = .int .i64 k ∧ (∃ sp, Own wr 5 1 v k (u8s (gen (fallB old want mask fill) k)) sp) ∧ (∀ q, v.ownBlock = some q → B ≤ q) ∧ Below B w wr) (fun _ i _ => n - (intOf i).toNat)
    case atStart =>
      have := HB.out
      exact ⟨0, by omega, rfl, ⟨[], h0⟩, by intro q hq; cases hq; show B ≤ w.heap.size; omega, by rw [this]; exact (Below.refl _ w).alloc (Nat.le_refl _) _⟩
    case round =>
      obtain ⟨k, hk, rfl, ⟨sp, ho⟩, hfr, hbl⟩ := hrel
      by_cases hlt : k < n
      · have hlen := HL.out
        have hbW : Below w.heap.size w wr := by rw [← HB.out]; exact hbl
        obtain ⟨ad, e0, hc0⟩ := (hr.below hbW).at_ (k := k) (u8s_bt old k (by omega))
        obtain rfl := e0
        obtain ⟨ad1, e1, hc1⟩ := (hr1.below hbW).at_ (k := k) (u8s_bt want k (by rw [HL1.out]; exact hlt))
        obtain rfl := e1
        have hr2' : Rd wr A2 (u8s mask) := hr2.below hbW
        have hsz : B ≤ wr.heap.size := by rw [HB.out]; exact hbW.size
        clear hlen hbW
        have hb0 := bv_lt (mk mask fill k)
        have HX : Go.bits .and .u8 ((bt old k).toNat : Int) (Go.bits .or .u8 ((bt want k).toNat : Int) (IntKind.u8.wrap (255 - ((mk mask fill k).toNat : Int)))) = ((fallB old want mask fill k).toNat : Int) := ref_bits (bt old k) (mk mask fill k) (bt want k)
        have HX' := Lib.hid HX
        clear HX
        go_wp2
        go_region_law (first | (refine step_app _ (by rfl) _ _ 22 (by rfl) 5 _ 1 1 Try.underlying22 info5 rfl (by decide) (by rfl) (ho.alloc _).drew (by rfl) (by rfl) (rd_one _ _ _).drew (one_int _ _) (by unfold maxLen; omega) (by omega) ?_; intro v1 w1 sp1 ho2 hy1) | (go_simp; go_at_call 41; refine (masked_any _ _ _ mask fill k _ HL2.out hr2'.drew hm2).mono ?_; rintro e w' ⟨rfl, rfl⟩))
        all_goals
          rw [HX'.out] at ho2
          have f1 := fresh_app (B := B) (by simp; omega) hfr hy1.at_
          have b1 : Below B w w1 := below_frm ((hbl.alloc hsz _).drew) (by simp; omega) hy1.frm (fun q hq => hfr q hq)
          clear ho hy1 hfr hbl
          go_wp2
          go_roundw
          case rel => exact ⟨k + 1, by omega, by go_num, ⟨sp1, by rw [gen_succ, u8s_append]; exact ho2⟩, f1, b1⟩
          case measure => simp [intOf]; omega
      · obtain rfl : k = n := by omega
        go_wp2
        go_ret2
        have hlen := HL.out
        have hg : gen (fallB old want mask fill) k = fallR old want mask fill := by rw [← hlen]; rfl
        rw [hg] at ho
        have hb := HB.out
        subst hb
        exact ⟨_, rfl, sp, by rw [show (fallR old want mask fill).length = k from by rw [← hlen]; exact gen_len _ _]; exact ho, hfr, hbl⟩
  · rw [if_neg hnm, if_neg hnm]
    have hne : ¬ (n : Int) = m := by omega
    go_enter Try.func29, Try.ntmps29
    go_wp2
    go_ret2
    exact ⟨_, rfl, NewB.nil w⟩

set_option maxHeartbeats 1600000 in
theorem refrise_any (A A2 : Option Addr) (n c k2 c2 : Nat) (old mask : List UInt8) (fill : UInt8) (w : World) (hl : old.length = n) (hl2 : mask.length = k2)
    (hr : Rd w A (u8s old)) (hr2 : Rd w A2 (u8s mask)) (hm : n ≤ 140737488355328) (hm2 : k2 ≤ 140737488355328) :
    Calls Try.prog 30 #[.slice A n c, .slice A2 k2 c2, .int .u8 (fill.toNat : Int)] w fun e w' => ∃ v, e = .returned v ∧ NewB w w' v (riseR old mask fill) := by
  have HL := Lib.hid hl
  have HL2 := Lib.hid hl2
  clear hl hl2
  obtain ⟨B, hB⟩ : ∃ B, B = w.heap.size := ⟨_, rfl⟩
  have HB := Lib.hid hB
  clear hB
  have h0 : Own (w.alloc (.cells #[] 5)) 5 1 (.slice (some ⟨w.heap.size, 0, none⟩) 0 0) 0 [] [] := Own.new w 5 1 0 [] rfl (Nat.zero_le _)
  go_enter Try.func30, Try.ntmps30
  go_wp2
  go_loopw [7, 8] (fun v i wr => ∃ k : Nat, k ≤ n ∧ i = .int .i64 k ∧ (∃ sp, Own wr 5 1 v k (u8s (gen (riseB old mask fill) k)) sp) ∧ (∀ q, v.ownBlock = some q → B ≤ q) ∧ Below B w wr) (fun _ i _ => n - (intOf i).toNat)
  case atStart =>
    have := HB.out
    exact ⟨0, by omega, rfl, ⟨[], h0⟩, by intro q hq; cases hq; show B ≤ w.heap.size; omega, by rw [this]; exact (Below.refl _ w).alloc (Nat.le_refl _) _⟩
  case round =>
    obtain ⟨k, hk, rfl, ⟨sp, ho⟩, hfr, hbl⟩ := hrel
    by_cases hlt : k < n
    · have hlen := HL.out
      have hbW : Below w.heap.size w wr := by rw [← HB.out]; exact hbl
      obtain ⟨ad, e0, hc0⟩ := (hr.below hbW).at_ (k := k) (u8s_bt old k (by omega))
      obtain rfl := e0
      have hr2' : Rd wr A2 (u8s mask) := hr2.below hbW
      have hsz : B ≤ wr.heap.size := by rw [HB.out]; exact hbW.size
      clear hlen hbW
      have hb0 := bv_lt (mk mask fill k)
      have HX : Go.bits .or .u8 ((bt old k).toNat : Int) ((mk mask fill k).toNat : Int) = ((riseB old mask fill k).toNat : Int) := u8_or_b (bt old k) (mk mask fill k)
      go_wp2
      go_region_law (first | (refine step_app _ (by rfl) _ _ 22 (by rfl) 5 _ 1 1 Try.underlying22 info5 rfl (by decide) (by rfl) (ho.alloc _).drew (by rfl) (by rfl) (rd_one _ _ _).drew (one_int _ _) (by unfold maxLen; omega) (by omega) ?_; intro v1 w1 sp1 ho2 hy1) | (go_simp; go_at_call 41; refine (masked_any _ _ _ mask fill k _ HL2.out hr2'.drew hm2).mono ?_; rintro e w' ⟨rfl, rfl⟩))
      all_goals
        have f1 := fresh_app (B := B) (by simp; omega) hfr hy1.at_
        have b1 : Below B w w1 := below_frm ((hbl.alloc hsz _).drew) (by simp; omega) hy1.frm (fun q hq => hfr q hq)
        clear ho hy1 hfr hbl
        go_wp2
        go_roundw
        case rel => exact ⟨k + 1, by omega, by go_num, ⟨sp1, by rw [gen_succ, u8s_append]; exact ho2⟩, f1, b1⟩
        case measure => simp [intOf]; omega
    · obtain rfl : k = n := by omega
      go_wp2
      go_ret
      have hlen := HL.out
      have hg : gen (riseB old mask fill) k = riseR old mask fill := by rw [← hlen]; rfl
      rw [hg] at ho
      have hb := HB.out
      subst hb
      exact ⟨_, rfl, sp, by rw [show (riseR old mask fill).length = k from by rw [← hlen]; exact gen_len _ _]; exact ho, hfr, hbl⟩


theorem fall_s (A A1 A2 : Option Addr) (n c m c1 k2 c2 : Nat) (old want mask : List UInt8) (fill : UInt8) (w : World) (hl : old.length = n) (hl1 : want.length = m) (hl2 : mask.length = k2)
    (hr : Rd w A (u8s old)) (hr1 : Rd w A1 (u8s want)) (hr2 : Rd w A2 (u8s mask)) (hm : n ≤ 140737488355328) (hm1 : m ≤ 140737488355328) (hm2 : k2 ≤ 140737488355328) :
    Calls Try.prog 31 #[.slice A n c, .slice A1 m c1, .slice A2 k2 c2, .int .u8 (fill.toNat : Int)] w fun e w' =>
      ∃ v, e = .returned (.tuple #[v, .int .i64 (fallE old want)]) ∧ NewB w w' v (fallS old want mask fill) := by
  unfold fallE fallS
  rw [hl, hl1]
  exact fall_any A A1 A2 n c m c1 k2 c2 old want mask fill w hl hl1 hl2 hr hr1 hr2 hm hm1 hm2
theorem reffall_s (A A1 A2 : Option Addr) (n c m c1 k2 c2 : Nat) (old want mask : List UInt8) (fill : UInt8) (w : World) (hl : old.length = n) (hl1 : want.length = m) (hl2 : mask.length = k2)
    (hr : Rd w A (u8s old)) (hr1 : Rd w A1 (u8s want)) (hr2 : Rd w A2 (u8s mask)) (hm : n ≤ 140737488355328) (hm1 : m ≤ 140737488355328) (hm2 : k2 ≤ 140737488355328) :
    Calls Try.prog 29 #[.slice A n c, .slice A1 m c1, .slice A2 k2 c2, .int .u8 (fill.toNat : Int)] w fun e w' =>
      ∃ v, e = .returned (.tuple #[v, .int .i64 (fallE old want)]) ∧ NewB w w' v (fallS old want mask fill) := by
  unfold fallE fallS
  rw [hl, hl1]
  exact reffall_any A A1 A2 n c m c1 k2 c2 old want mask fill w hl hl1 hl2 hr hr1 hr2 hm hm1 hm2
end Go.Proofs.Ytelpdcggpahocaa
