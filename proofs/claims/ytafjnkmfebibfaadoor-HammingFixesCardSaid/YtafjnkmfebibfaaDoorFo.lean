/- The law HammingOne: its walk. -/
import Derived.Test.YtafjnkmfebibfaaDoorFu
namespace Go.Proofs.YtafjnkmfebibfaaDoor
open Go.RowKit
set_option linter.unusedVariables false
set_option linter.unusedSimpArgs false
theorem mks_ins {w : World} {g : Nat} {l : List UInt8} {sp : List Value} (h : Blk w g 5 (u8s (l ++ [161, 178, 195]) ++ sp)) : Blk w g 5 (u8s l ++ (u8s [161, 178, 195] ++ sp)) := by
  rw [← List.append_assoc, ← u8s_append]; exact h
theorem eq_arr3 (a b c x y z : Int) (w : World) : (Op.equalIn 10000 23 (.agg #[.int .u8 a, .int .u8 b, .int .u8 c]) (.agg #[.int .u8 x, .int .u8 y, .int .u8 z])).run Tryd.prog w = .ok (a == x && b == y && c == z) w := by
  have u3 := Tryd.underlying5
  have a3 : ∀ w, (isAgg 5).run Tryd.prog w = .ok false w := fun w => by kernel_rfl
  have z3 : ∀ w, (sizeOf 5).run Tryd.prog w = .ok 1 w := fun w => by kernel_rfl
  rw [show (10000 : Nat) = 9999 + 1 from rfl, Op.equalIn]
  simp only [Sem.run_bind, run_underlying Tryd.underlying23, Result.andThen_ok]
  simp only [Std.Legacy.Range.forIn_eq_forIn_range', Std.Legacy.Range.size, Nat.sub_zero, Nat.add_sub_cancel, Nat.div_one, List.range'_succ, List.range'_zero, List.forIn_cons, List.forIn_nil]
  go_simp
  by_cases h1 : a = x <;> by_cases h2 : b = y <;> by_cases h3 : c = z <;> simp [h1, h2, h3]
theorem eq_arr3_self (a b c : Int) (w : World) : (Op.equalIn 10000 23 (.agg #[.int .u8 a, .int .u8 b, .int .u8 c]) (.agg #[.int .u8 a, .int .u8 b, .int .u8 c])).run Tryd.prog w = .ok true w := by
  have h := eq_arr3 a b c a b c w
  simpa using h
theorem Blk.bel {w w' : World} {g : Nat} {t : TypeId} {cs : List Value} (h : Blk w g t cs) (hb : Below w.heap.size w w') : Blk w' g t cs := h.frm (ex := fun _ => False) (Frm.of_below hb) id
theorem bel_drew {B : Nat} {w w' : World} (h : Below B w w') : Below B w w'.drew := ⟨h.os, h.tape, h.output, h.size, h.block⟩
/-- The program's own sum of a sector. -/
theorem Sum256 (A : Option Addr) (n cap : Nat) (l : List UInt8) (x0 x1 x2 : Int) (w : World) (hl : l.length = n) (hn : n = 256) (hr : Rd w A (u8s l)) (hx : triC (sumN l) = [.int .u8 x0, .int .u8 x1, .int .u8 x2]) :
    Calls Tryd.prog 14 #[.slice A n cap] w fun e w' => e = .returned (.tuple #[.agg #[.int .u8 x0, .int .u8 x1, .int .u8 x2], .int .i64 0]) ∧ Below w.heap.size w w' := by
  have h := Sum_any A n cap l w hl (by omega) hr
  unfold sumR at h
  rw [if_pos hn, if_pos hn] at h
  unfold tri at h
  rw [hx] at h
  exact h
/-- Fix, its numbers in the open. -/
theorem Fix256 (A : Option Addr) (n cap : Nat) (l : List UInt8) (g : Nat) (l' : List UInt8) (g' : Nat) (k e : Int) (x0 x1 x2 y0 y1 y2 : Int) (w : World) (hl : l.length = n) (hn : n = 256) (hr : Rd w A (u8s l)) (hg : g < 16777216) (hT : Tab w) (hf : FixIs l g l' g' k e)
    (hx : triC g = [.int .u8 x0, .int .u8 x1, .int .u8 x2]) (hy : triC g' = [.int .u8 y0, .int .u8 y1, .int .u8 y2]) :
    Calls Tryd.prog 10 #[.slice A n cap, .agg #[.int .u8 x0, .int .u8 x1, .int .u8 x2]] w fun x w' => ∃ v sp, x = .returned (.tuple #[v, .agg #[.int .u8 y0, .int .u8 y1, .int .u8 y2], .int .i64 k, .int .i64 e]) ∧ Own w' 5 1 v l'.length (u8s l') sp ∧ (∀ q, v.ownBlock = some q → w.heap.size ≤ q) ∧ Below w.heap.size w w' := by
  have h := Fix_any A n cap l g l' g' k e w hl hn hr hg hT hf
  unfold tri at h
  rw [hx, hy] at h
  exact h
/-- Three bytes stored into a variable of its own. -/
theorem set3 {W w6 : World} {q n : Nat} {v : Value} {xs sp : List Value} {y0 y1 y2 : Int} (x0 x1 x2 : Int) (hz : Blk w6 q 23 [.int .u8 y0, .int .u8 y1, .int .u8 y2]) (hb : Below W.heap.size W w6) (hq : W.heap.size ≤ q) (ho : Own w6 5 1 v n xs sp) (hv : ∀ k, v.ownBlock = some k → k ≠ q) :
    Blk (((w6.setCell ⟨q, 0, none⟩ (.int .u8 x0)).setCell ⟨q, 1, none⟩ (.int .u8 x1)).setCell ⟨q, 2, none⟩ (.int .u8 x2)) q 23 [.int .u8 x0, .int .u8 x1, .int .u8 x2] ∧
    Below W.heap.size W (((w6.setCell ⟨q, 0, none⟩ (.int .u8 x0)).setCell ⟨q, 1, none⟩ (.int .u8 x1)).setCell ⟨q, 2, none⟩ (.int .u8 x2)) ∧
    Own (((w6.setCell ⟨q, 0, none⟩ (.int .u8 x0)).setCell ⟨q, 1, none⟩ (.int .u8 x1)).setCell ⟨q, 2, none⟩ (.int .u8 x2)) 5 1 v n xs sp := by
  have hf : Frm (fun k => k = q) w6 (((w6.setCell ⟨q, 0, none⟩ (.int .u8 x0)).setCell ⟨q, 1, none⟩ (.int .u8 x1)).setCell ⟨q, 2, none⟩ (.int .u8 x2)) :=
    (((Frm.refl (fun k => k = q) w6).setCell (p := ⟨q, 0, none⟩) (fun _ => rfl) _).setCell (p := ⟨q, 1, none⟩) (fun _ => rfl) _).setCell (p := ⟨q, 2, none⟩) (fun _ => rfl) _
  exact ⟨((hz.set_ 0 (.int .u8 x0)).set_ 1 (.int .u8 x1)).set_ 2 (.int .u8 x2), below_frm hb hb.size hf (fun k hk => by rw [hk]; exact hq), ho.frm hf (fun k hk => hv k hk)⟩
theorem far3 {w : World} {g q : Nat} {t : TypeId} {cs : List Value} (u0 u1 u2 : Value) (h : Blk w g t cs) (hne : g ≠ q) : Blk (((w.setCell ⟨q, 0, none⟩ u0).setCell ⟨q, 1, none⟩ u1).setCell ⟨q, 2, none⟩ u2) g t cs := ((h.far (p := ⟨q, 0, none⟩) hne u0).far (p := ⟨q, 1, none⟩) hne u1).far (p := ⟨q, 2, none⟩) hne u2
theorem fix_same (l : List UInt8) : FixIs l (sumN l) l (sumN l) (-1) 0 := .inl ⟨Nat.xor_self _, rfl, rfl, rfl, rfl⟩
theorem fix_one (l : List UInt8) (m : Nat) (hl : l.length = 256) (hm : m < 2072) : FixIs (turnL l m) (turnG (sumN l) m) l (sumN l) m 0 := by
  by_cases h : m < 2048
  · rw [show turnL l m = flipB l m from if_pos h, show turnG (sumN l) m = sumN l from if_pos h]
    refine .inr (.inr (.inl ⟨m, h, ?_, (flip_twice l m (by omega)).symm, rfl, rfl, rfl⟩))
    rw [sumN_flip l m hl h, ← Nat.xor_assoc, Nat.xor_self, Nat.zero_xor]
  · rw [show turnL l m = l from if_neg h, show turnG (sumN l) m = sumN l ^^^ 2 ^ (m - 2048) from if_neg h]
    refine .inr (.inl ⟨m - 2048, by omega, ?_, rfl, ?_, by omega, rfl⟩)
    · rw [Nat.xor_comm, ← Nat.xor_assoc, Nat.xor_self, Nat.zero_xor]
    · rw [Nat.xor_assoc, Nat.xor_self, Nat.xor_zero]
set_option maxRecDepth 100000 in
set_option maxHeartbeats 6400000 in
theorem one_walk (w : World) (A0 : Option Addr) (n0 c0 : Nat) (l : List UInt8) (hl : l.length = n0) (hr0 : Rd w A0 (u8s l)) (hm : n0 ≤ 140737488351232) (a1 : Int) (ha1 : -9223372036854775808 ≤ a1) (ha2 : a1 ≤ 9223372036854775807) (hT : Tab w) :
    Calls Tryd.prog 4 #[.slice A0 n0 c0, .int .i64 a1] w fun e w' => e = .returned (.bool true) ∧ Below w.heap.size w w' := by
  have HT := Lib.hid hT
  clear hT
  go_enter Tryd.func4, Tryd.ntmps4
  go_wp2_with fail
  with_reducible refine (whole_any A0 n0 c0 l _ hl hr0 hm).mono ?_
  rintro e w1 ⟨v1, lw, sp1, rfl, hlw, ho1, _, b1⟩
  clear hl hr0 hm
  obtain ⟨n, hn⟩ : ∃ n, n = 256 := ⟨_, rfl⟩
  rw [← hn] at ho1 hlw
  obtain ⟨A, cap, rfl, hcap, hr⟩ := ho1.rd
  have HL := Lib.hid hlw
  have HN := Lib.hid hn
  have hn2 : n ≤ 1000 := by omega
  have hn3 : 200 ≤ n := by omega
  obtain ⟨x0, x1, x2, hx⟩ := tri_eq (sumN lw)
  have hF1 := fun A' c' wx hr' hT' => Fix256 A' n c' lw (sumN lw) lw (sumN lw) (-1) 0 x0 x1 x2 x0 x1 x2 wx hlw hn hr' (sumN_lt lw) hT' (fix_same lw) hx hx
  rw [hlw] at hF1
  have hS1 := fun A' c' wx hr' => Sum256 A' n c' lw x0 x1 x2 wx hlw hn hr' hx
  have HX := Lib.hid hx
  clear ho1 hlw hn hx
  go_wp2_with fail
  with_reducible refine (marked_any A n cap lw _ HL.out hr (by omega)).mono ?_
  rintro e w2 ⟨g2, cp2, sp2, rfl, hg2, hcp2, hgs2, b2⟩
  replace hr := hr.below b2
  replace b1 := b1.trans (b2.mono b1.size)
  clear b2 hcp2 hgs2
  go_wp2_with fail
  with_reducible refine (hS1 _ _ _ (Rd.of_blk (mks_ins hg2))).mono ?_
  rintro e w3 ⟨rfl, b3⟩
  replace hr := hr.below b3
  replace b1 := b1.trans (b3.mono b1.size)
  clear b3 hS1 hg2
  have k3 : Blk (w3.alloc (.cells #[.int .u8 x0, .int .u8 x1, .int .u8 x2] 23)) w3.heap.size 23 [.int .u8 x0, .int .u8 x1, .int .u8 x2] := Blk.new w3 _ _
  have r3 := hr.alloc (.cells #[.int .u8 x0, .int .u8 x1, .int .u8 x2] 23)
  have b4 := b1.alloc b1.size (.cells #[.int .u8 x0, .int .u8 x1, .int .u8 x2] 23)
  have hws : w.heap.size ≤ w3.heap.size := b1.size
  clear hr b1
  go_wp2
  obtain ⟨G, hG⟩ : ∃ G, G = w3.heap.size := ⟨_, rfl⟩
  rw [← hG] at k3 hws ⊢
  clear hG
  obtain ⟨w4, hw4⟩ : ∃ w4, w4 = w3.alloc (.cells #[.int .u8 x0, .int .u8 x1, .int .u8 x2] 23) := ⟨_, rfl⟩
  rw [← hw4] at k3 r3 b4 ⊢
  clear hw4
  have kd := k3
  have kd' : Blk w4.drew G 23 [.int .u8 x0, .int .u8 x1, .int .u8 x2] := k3
  have rd4 := r3
  have bd4 := b4
  obtain ⟨d0, d1, d2⟩ := cells3 k3
  clear k3 r3 b4
  have hGl := kd.lt
  go_region_held3 (fun wx => wx.cell? ⟨G, 0, none⟩ = some (.int .u8 x0) ∧ wx.cell? ⟨G, 1, none⟩ = some (.int .u8 x1) ∧ wx.cell? ⟨G, 2, none⟩ = some (.int .u8 x2)) (first | exact cells3 (by assumption) | exact cells3 (Blk.alloc (by assumption) _) | exact cells3 (far3 _ _ _ (by assumption) (by assumption)) | go_keep) (first
    | (go_at_call 9; first
        | ((with_reducible refine (marked_any A n cap lw _ HL.out rd4.drew (by omega)).mono ?_); rintro e w5 ⟨g5, cp5, sp5, rfl, hg5, hcp5, hgs5, b5⟩; have q5 : Below w4.heap.size w4 w5 := ⟨b5.os, b5.tape, b5.output, b5.size, b5.block⟩)
        | ((with_reducible refine (marked_any A n cap lw _ HL.out (rd4.alloc _).drew (by omega)).mono ?_); rintro e w5 ⟨g5, cp5, sp5, rfl, hg5, hcp5, hgs5, b5⟩; have q5 : Below w4.heap.size w4 w5 := ((Below.refl _ w4).alloc (Nat.le_refl _) (.cells #[.int .u8 0, .int .u8 0, .int .u8 0] 23)).trans (Below.mono ⟨b5.os, b5.tape, b5.output, b5.size, b5.block⟩ (by simp)); have zb : Blk w5 w4.heap.size 23 [.int .u8 0, .int .u8 0, .int .u8 0] := ((Blk.new w4 23 [.int .u8 0, .int .u8 0, .int .u8 0]).drew).bel b5)
       have k5 := kd.bel q5; clear b5; dsimp only)
    | (go_at_call 10; first
        | ((with_reducible refine (hF1 _ _ _ (Rd.of_blk (mks_ins hg5)) (HT.out.below (bd4.trans (q5.mono bd4.size)))).mono ?_); rintro e w6 ⟨v6, sp6, rfl, o6, f6, b6⟩; have q6 : Below w4.heap.size w4 w6 := q5.trans (b6.mono q5.size); have hv6 : ∀ k, v6.ownBlock = some k → w5.heap.size ≤ k := f6; (try (have zb6 := zb.bel b6; have hne6 : G ≠ w4.heap.size := (by omega))))
        | ((with_reducible refine (hF1 _ _ _ ((Rd.of_blk (mks_ins hg5)).alloc _) (HT.out.below ((bd4.trans (q5.mono bd4.size)).alloc (Nat.le_trans bd4.size q5.size) _))).mono ?_); rintro e w6 ⟨v6, sp6, rfl, o6, f6, b6⟩; have q6 : Below w4.heap.size w4 w6 := (q5.alloc q5.size _).trans (b6.mono (by have := q5.size; simp at this ⊢; omega)); have hv6 : ∀ k, v6.ownBlock = some k → w5.heap.size + 1 ≤ k := (fun k hk => (by have := f6 k hk; simpa using this)); have zb6 : Blk w6 w5.heap.size 23 [.int .u8 0, .int .u8 0, .int .u8 0] := (Blk.new w5 23 [.int .u8 0, .int .u8 0, .int .u8 0]).bel b6; have hne6 : G ≠ w5.heap.size := (by have := q5.size; omega))
       have k6 := kd.bel q6; (try (obtain ⟨t0, t1, t2⟩ := cells3 zb6; have z0 := zb6.frozen 0; have z1 := zb6.frozen 1; have z2 := zb6.frozen 2)); dsimp only))
  all_goals
    (first
    | (obtain ⟨w7, hw7⟩ : ∃ w7, w7 = w6.alloc (.cells #[.int .u8 x0, .int .u8 x1, .int .u8 x2] 23) := ⟨_, rfl⟩
       rw [← hw7]
       have k9 : Blk w7 w6.heap.size 23 [.int .u8 x0, .int .u8 x1, .int .u8 x2] := by rw [hw7]; exact Blk.new w6 _ _
       have q7 : Below w4.heap.size w4 w7 := by rw [hw7]; exact q6.alloc q6.size _
       have o7 : Own w7 5 1 v6 n (u8s lw) sp6 := by rw [hw7]; exact o6.alloc _
       have hne7 : w4.heap.size ≤ w6.heap.size := q6.size
       obtain ⟨G9, hG9⟩ : ∃ q, q = w6.heap.size := ⟨_, rfl⟩
       (try rw [← hG9] at k9 ⊢)
       replace hne7 : w4.heap.size ≤ G9 := by omega
       clear hG9 hw7)
    | (obtain ⟨w7, hw7⟩ : ∃ w7, w7 = (((w6.setCell ⟨w5.heap.size, 0, none⟩ (.int .u8 x0)).setCell ⟨w5.heap.size, 1, none⟩ (.int .u8 x1)).setCell ⟨w5.heap.size, 2, none⟩ (.int .u8 x2)) := ⟨_, rfl⟩
       rw [← hw7]
       obtain ⟨k9, q7, o7⟩ := set3 x0 x1 x2 zb6 q6 q5.size o6 (fun k hk => by have := hv6 k hk; omega)
       have hne7 : w4.heap.size ≤ w5.heap.size := q5.size
       rw [← hw7] at k9 q7 o7
       obtain ⟨G9, hG9⟩ : ∃ q, q = w5.heap.size := ⟨_, rfl⟩
       (try rw [← hG9] at k9 ⊢)
       replace hne7 : w4.heap.size ≤ G9 := by omega
       clear hG9 hw7)
    | (obtain ⟨w7, hw7⟩ : ∃ w7, w7 = (((w6.setCell ⟨w4.heap.size, 0, none⟩ (.int .u8 x0)).setCell ⟨w4.heap.size, 1, none⟩ (.int .u8 x1)).setCell ⟨w4.heap.size, 2, none⟩ (.int .u8 x2)) := ⟨_, rfl⟩
       rw [← hw7]
       obtain ⟨k9, q7, o7⟩ := set3 x0 x1 x2 zb6 q6 (Nat.le_refl _) o6 (fun k hk => by have := hv6 k hk; have := zb.lt; omega)
       have hne7 : w4.heap.size ≤ w4.heap.size := Nat.le_refl _
       rw [← hw7] at k9 q7 o7
       obtain ⟨G9, hG9⟩ : ∃ q, q = w4.heap.size := ⟨_, rfl⟩
       (try rw [← hG9] at k9 ⊢)
       replace hne7 : w4.heap.size ≤ G9 := by omega
       clear hG9 hw7))
    have r7 := rd4.below q7
    have k7 := kd.bel q7
    obtain ⟨A6, c6, rfl, _, r6⟩ := o7.rd
    try clear t0 t1 t2 z0 z1 z2
    try clear zb6
    try clear zb
    try clear hne6
    clear kd' hGl d0 d1 d2 hgs5 hcp5 k6 hv6 o7 o6 f6 q6 q5 b6 k5 hg5 hws
    clear hcap
    have e1 : (convert 22 9 (.slice A6 n c6)).run Tryd.prog w7 = .ok (.string ⟨lw.toArray⟩) w7 := rd_string 22 9 5 Tryd.underlying22 Tryd.underlying5 Tryd.underlying9 HL.out r6
    have e2 : (convert 22 9 (.slice A n cap)).run Tryd.prog w7 = .ok (.string ⟨lw.toArray⟩) w7 := rd_string 22 9 5 Tryd.underlying22 Tryd.underlying5 Tryd.underlying9 HL.out r7
    obtain ⟨d0, d1, d2⟩ := cells3 k7
    obtain ⟨f0, f1, f2⟩ := cells3 k9
    have hq := eq_arr3_self x0 x1 x2
    go_wp2_with fail
    with_reducible refine (bit_any a1 ha1 ha2 _).mono ?_
    rintro e w' ⟨m, hm, rfl, rfl⟩
    clear e1 r6 hF1
    obtain ⟨y0, y1, y2, hy⟩ := tri_eq (turnG (sumN lw) m)
    have hTu := fun wx hrx => turned_any A n cap lw (sumN lw) m wx HL.out HN.out hrx (sumN_lt lw) hm
    have htx : tri (sumN lw) = .agg #[.int .u8 x0, .int .u8 x1, .int .u8 x2] := by unfold tri; rw [HX.out]
    have hty : tri (turnG (sumN lw) m) = .agg #[.int .u8 y0, .int .u8 y1, .int .u8 y2] := by unfold tri; rw [hy]
    rw [htx, hty] at hTu
    have hl1 : (turnL lw m).length = n := by rw [turnL_len, HL.out]
    have hF2 := fun A' c' wx hr' hT' => Fix256 A' n c' (turnL lw m) (turnG (sumN lw) m) lw (sumN lw) m 0 y0 y1 y2 x0 x1 x2 wx hl1 HN.out hr' (turnG_lt _ _ (sumN_lt lw) hm) hT' (fix_one lw m (by rw [HL.out, HN.out]) hm) hy HX.out
    rw [HL.out] at hF2
    have HL1 := Lib.hid hl1
    clear hl1 hy htx hty
    generalize turnL lw m = l1 at *
    go_wp2_with fail
    with_reducible refine (hTu _ r7).mono ?_
    rintro e w8 ⟨A8, c8, rfl, r8, b8⟩
    clear hTu d0 d1 d2 f0 f1 f2 e2
    have k9 := k9.bel b8
    have q8 := q7.trans (b8.mono q7.size)
    clear b8 r7 k7 q7
    go_wp2
    obtain ⟨w9, hw9⟩ : ∃ w9, w9 = w8.alloc (.cells #[.int .u8 y0, .int .u8 y1, .int .u8 y2] 23) := ⟨_, rfl⟩
    obtain ⟨G2, hG2⟩ : ∃ G2, G2 = w8.heap.size := ⟨_, rfl⟩
    rw [← hw9, ← hG2]
    have hne8 : G2 ≠ G9 := by have := k9.lt; omega
    have k2 : Blk w9 G2 23 [.int .u8 y0, .int .u8 y1, .int .u8 y2] := by rw [hw9, hG2]; exact Blk.new w8 _ _
    have k9 : Blk w9 G9 23 [.int .u8 x0, .int .u8 x1, .int .u8 x2] := by rw [hw9]; exact k9.alloc _
    have r8 : Rd w9 A8 (u8s l1) := by rw [hw9]; exact r8.alloc _
    have q9 : Below w4.heap.size w4 w9 := by rw [hw9]; exact q8.alloc q8.size _
    clear hw9 hG2 q8
    have k9d : Blk w9.drew G9 23 [.int .u8 x0, .int .u8 x1, .int .u8 x2] := k9
    have k2d : Blk w9.drew G2 23 [.int .u8 y0, .int .u8 y1, .int .u8 y2] := k2
    have r8d : Rd w9.drew A8 (u8s l1) := r8
    have qd : Below w4.heap.size w4 w9.drew := bel_drew q9
    obtain ⟨d0, d1, d2⟩ := cells3 k2
    clear k9 r8 q9 k2
    go_region_held3 (fun wx => wx.cell? ⟨G2, 0, none⟩ = some (.int .u8 y0) ∧ wx.cell? ⟨G2, 1, none⟩ = some (.int .u8 y1) ∧ wx.cell? ⟨G2, 2, none⟩ = some (.int .u8 y2)) (first | exact cells3 (by assumption) | exact cells3 (far3 _ _ _ (by assumption) (by assumption)) | go_keep) (first
      | (go_at_call 9; (with_reducible refine (marked_any A8 n c8 l1 _ HL1.out r8d (by omega)).mono ?_); rintro e wa ⟨ga, cpa, spa, rfl, hga, _, _, ba⟩; have k9a := k9d.bel ba; have k2a := k2d.bel ba; have qa := qd.trans (ba.mono qd.size); clear ba; dsimp only)
      | (go_at_call 10; (with_reducible refine (hF2 _ _ _ (Rd.of_blk (mks_ins hga)) (HT.out.below (bd4.trans (qa.mono bd4.size)))).mono ?_); rintro e wb ⟨vb, spb, rfl, ob, fb, bb⟩; have k9b := k9a.bel bb; have k2b := k2a.bel bb; have qb := qa.trans (bb.mono qa.size); obtain ⟨t0, t1, t2⟩ := cells3 k9b; have z0 := k9b.frozen 0; have z1 := k9b.frozen 1; have z2 := k9b.frozen 2; have fc : ∀ k, vb.ownBlock = some k → k ≠ G9 := (fun k hk => (by have h1 := fb k hk; have h2 := k9a.lt; omega)); dsimp only))
    obtain ⟨kc, qc, oc⟩ := set3 (W := w4) x0 x1 x2 k9b qb hne7 ob fc
    obtain ⟨wc, hwc⟩ : ∃ wc, wc = (((wb.setCell ⟨G9, 0, none⟩ (.int .u8 x0)).setCell ⟨G9, 1, none⟩ (.int .u8 x1)).setCell ⟨G9, 2, none⟩ (.int .u8 x2)) := ⟨_, rfl⟩
    rw [← hwc] at kc qc oc ⊢
    obtain ⟨Ac, cc, rfl, _, rc⟩ := oc.rd
    have rA := rd4.below qc
    have kG := kd.bel qc
    have bF := bd4.trans (qc.mono bd4.size)
    clear hwc ob oc fb fc k9b k2b qb bb t0 t1 t2 z0 z1 z2 k9a k2a qa hga k9d k2d r8d qd d0 d1 d2 hF2 kd rd4 bd4
    have e1 : (convert 22 9 (.slice Ac n cc)).run Tryd.prog wc = .ok (.string ⟨lw.toArray⟩) wc := rd_string 22 9 5 Tryd.underlying22 Tryd.underlying5 Tryd.underlying9 HL.out rc
    have e2 : (convert 22 9 (.slice A n cap)).run Tryd.prog wc = .ok (.string ⟨lw.toArray⟩) wc := rd_string 22 9 5 Tryd.underlying22 Tryd.underlying5 Tryd.underlying9 HL.out rA
    obtain ⟨d0, d1, d2⟩ := cells3 kG
    obtain ⟨f0, f1, f2⟩ := cells3 kc
    go_wp2
    go_ret
    exact ⟨rfl, bF⟩
end Go.Proofs.YtafjnkmfebibfaaDoor
