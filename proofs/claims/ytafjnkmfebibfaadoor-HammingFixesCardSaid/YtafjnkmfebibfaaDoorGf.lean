/- The law HammingFixes: its walk (printed by gen_fixes.py). -/
import Derived.Test.YtafjnkmfebibfaaDoorGe
import Derived.Test.YtafjnkmfebibfaaDoorHuc
namespace Go.Proofs.YtafjnkmfebibfaaDoor
open Go.RowKit
set_option linter.unusedVariables false
set_option linter.unusedSimpArgs false
/-- What the document's Fix of a new copy leaves. -/
def FixD (w wx : World) (l' : List UInt8) (n' : Nat) (k e : Int) (z0 z1 z2 : Int) (a b c d : Value) : Prop :=
  ∃ A cp G, a = .slice A n' cp ∧ b = .pointer (some ⟨G, 0, none⟩) ∧ c = .int .i64 k ∧ d = .int .i64 e ∧ Rd wx A (u8s l') ∧ Blk wx G 23 [.int .u8 z0, .int .u8 z1, .int .u8 z2] ∧ Below w.heap.size w wx
theorem rd_far3 {w : World} {A A0 : Option Addr} {n c z : Nat} {cs : List Value} {B : Nat} (y0 y1 y2 : Value) (hr : Rd w A cs) (hA : A = A0 ∨ ∀ ad, A = some ad → B ≤ ad.block) (hB : z < B) (h0 : ∀ q, (Value.slice A0 n c).ownBlock = some q → q ≠ z) :
    Rd (((w.setCell ⟨z, 0, none⟩ y0).setCell ⟨z, 1, none⟩ y1).setCell ⟨z, 2, none⟩ y2) A cs := by
  have hf : Frm (fun k => k = z) w (((w.setCell ⟨z, 0, none⟩ y0).setCell ⟨z, 1, none⟩ y1).setCell ⟨z, 2, none⟩ y2) :=
    (((Frm.refl (fun k => k = z) w).setCell (p := ⟨z, 0, none⟩) (fun _ => rfl) _).setCell (p := ⟨z, 1, none⟩) (fun _ => rfl) _).setCell (p := ⟨z, 2, none⟩) (fun _ => rfl) _
  refine hr.frm hf (fun ad e h => ?_)
  rcases hA with hA | hA
  · exact h0 ad.block (by rw [← hA, e]; rfl) h
  · have := hA ad e; omega
theorem at_world {P : Program} {ops : Array Oper} {o : Oper} {a : Act} {K : Act → World → Prop} {Q : Exit → Act → World → Prop} {E : Prop} (w : World) (h : if Region.wanted o (yielded ops a.tmps) = true then Oper.wp P o a w K Q else E) : if Region.wanted o (yielded ops a.tmps) = true then Oper.wp P o a w K Q else E := h
theorem finD {we w6 : World} {z : Nat} {A A0 : Option Addr} {n c B : Nat} {cs : List Value} (y0 y1 y2 : Int) (hzb : Blk w6 z 23 [.int .u8 0, .int .u8 0, .int .u8 0]) (hq : Below we.heap.size we w6) (hz : we.heap.size ≤ z) (hr : Rd w6 A cs) (hA : A = A0 ∨ ∀ ad, A = some ad → B ≤ ad.block) (hB : z < B) (h0 : ∀ q, (Value.slice A0 n c).ownBlock = some q → q ≠ z) :
    Blk (((w6.setCell ⟨z, 0, none⟩ (.int .u8 y0)).setCell ⟨z, 1, none⟩ (.int .u8 y1)).setCell ⟨z, 2, none⟩ (.int .u8 y2)) z 23 [.int .u8 y0, .int .u8 y1, .int .u8 y2] ∧
    Below we.heap.size we (((w6.setCell ⟨z, 0, none⟩ (.int .u8 y0)).setCell ⟨z, 1, none⟩ (.int .u8 y1)).setCell ⟨z, 2, none⟩ (.int .u8 y2)) ∧
    Rd (((w6.setCell ⟨z, 0, none⟩ (.int .u8 y0)).setCell ⟨z, 1, none⟩ (.int .u8 y1)).setCell ⟨z, 2, none⟩ (.int .u8 y2)) A cs := by
  have hf : Frm (fun k => k = z) w6 (((w6.setCell ⟨z, 0, none⟩ (.int .u8 y0)).setCell ⟨z, 1, none⟩ (.int .u8 y1)).setCell ⟨z, 2, none⟩ (.int .u8 y2)) :=
    (((Frm.refl (fun k => k = z) w6).setCell (p := ⟨z, 0, none⟩) (fun _ => rfl) _).setCell (p := ⟨z, 1, none⟩) (fun _ => rfl) _).setCell (p := ⟨z, 2, none⟩) (fun _ => rfl) _
  exact ⟨((hzb.set_ 0 _).set_ 1 _).set_ 2 _, below_frm hq hq.size hf (fun k hk => by rw [hk]; exact hz), rd_far3 _ _ _ hr hA hB h0⟩
theorem bt_front (l m : List UInt8) (k : Nat) (h : k < l.length) : bt (l ++ m) k = bt l k := by
  unfold bt
  rw [List.getD_eq_getElem?_getD, List.getD_eq_getElem?_getD, List.getElem?_append_left h]
set_option maxRecDepth 100000 in
set_option maxHeartbeats 12800000 in
theorem fixes_walk (w : World) (A : Option Addr) (n cap : Nat) (l : List UInt8) (hl : l.length = n) (hr : Rd w A (u8s l)) (hm : n ≤ 140737488351232) (g h : Nat) (hg : g < 16777216) (hh : h < 16777216) (hT : Tab w) :
    Calls Tryd.prog 3 #[.slice A n cap, tri g, tri h] w fun e w' => e = .returned (.bool true) ∧ Below w.heap.size w w' := by
  obtain ⟨hf, hhf⟩ : ∃ hf, hf = n / 2 := ⟨_, rfl⟩
  have HF := Lib.hid hhf
  clear hhf
  obtain ⟨fv, hfv⟩ : ∃ fv, fv = bt l hf ^^^ 90 := ⟨_, rfl⟩
  have HFV := Lib.hid hfv
  clear hfv
  obtain ⟨lc, hlcd⟩ : ∃ lc, lc = l.set hf fv := ⟨_, rfl⟩
  have hlc : lc.length = n := by rw [hlcd, List.length_set, hl]
  obtain ⟨l1, g1, k1, e1, hf1⟩ := fixAll_total l g hg
  obtain ⟨l2, g2, k2, e2, hf2⟩ := fixAll_total l h hh
  obtain ⟨l3, g3, k3, e3, hf3⟩ := fixAll_total lc g hg
  obtain ⟨n1, hn1⟩ : ∃ n1, l1.length = n1 := ⟨_, rfl⟩
  obtain ⟨n2, hn2⟩ : ∃ n2, l2.length = n2 := ⟨_, rfl⟩
  obtain ⟨n3, hn3⟩ : ∃ n3, l3.length = n3 := ⟨_, rfl⟩
  have hs1 : n1 ≤ 256 := hn1 ▸ fixAll_len _ _ _ _ _ _ hf1
  have hs2 : n2 ≤ 256 := hn2 ▸ fixAll_len _ _ _ _ _ _ hf2
  have hs3 : n3 ≤ 256 := hn3 ▸ fixAll_len _ _ _ _ _ _ hf3
  obtain ⟨p0, p1, p2, hp⟩ := tri_eq g
  obtain ⟨q0, q1, q2, hq⟩ := tri_eq h
  obtain ⟨x0, x1, x2, hx⟩ := tri_eq g1
  obtain ⟨y0, y1, y2, hy⟩ := tri_eq g2
  obtain ⟨z0, z1, z2, hz⟩ := tri_eq g3
  have htp : tri g = .agg #[.int .u8 p0, .int .u8 p1, .int .u8 p2] := by unfold tri; rw [hp]
  have htq : tri h = .agg #[.int .u8 q0, .int .u8 q1, .int .u8 q2] := by unfold tri; rw [hq]
  rw [htp, htq]
  have hR1 := fun A' c' wx hr' => rFix_all A' n c' l g l1 n1 g1 k1 e1 p0 p1 p2 x0 x1 x2 wx hl (by omega) hr' hg hf1 hn1 hp hx
  have hR2 := fun A' c' wx hr' => rFix_all A' n c' l h l2 n2 g2 k2 e2 q0 q1 q2 y0 y1 y2 wx hl (by omega) hr' hh hf2 hn2 hq hy
  have hR3 := fun A' c' wx hr' => rFix_all A' n c' lc g l3 n3 g3 k3 e3 p0 p1 p2 z0 z1 z2 wx hlc (by omega) hr' hg hf3 hn3 hp hz
  have hF1 := fun A' c' wx hr' hT' => Fix_all A' n c' l g l1 n1 g1 k1 e1 p0 p1 p2 x0 x1 x2 wx hl (by omega) hr' hg hT' hf1 hn1 hp hx
  have hF2 := fun A' c' wx hr' hT' => Fix_all A' n c' l h l2 n2 g2 k2 e2 q0 q1 q2 y0 y1 y2 wx hl (by omega) hr' hh hT' hf2 hn2 hq hy
  have hF3 := fun A' c' wx hr' hT' => Fix_all A' n c' lc g l3 n3 g3 k3 e3 p0 p1 p2 z0 z1 z2 wx hlc (by omega) hr' hg hT' hf3 hn3 hp hz
  have HR1 := Lib.hid hR1
  have HR2 := Lib.hid hR2
  have HR3 := Lib.hid hR3
  have HF1 := Lib.hid hF1
  have HF2 := Lib.hid hF2
  have HF3 := Lib.hid hF3
  have HL := Lib.hid hl
  have HLC := Lib.hid hlc
  have HN1 := Lib.hid hn1
  have HN2 := Lib.hid hn2
  have HN3 := Lib.hid hn3
  have HD := Lib.hid hlcd
  have HT0 := Lib.hid hT
  have HR0 := Lib.hid hr
  clear hR1 hR2 hR3 hF1 hF2 hF3 hl hlc hn1 hn2 hn3 hlcd hT hr hf1 hf2 hf3 hp hq hx hy hz htp htq
  obtain ⟨w1, hw1⟩ : ∃ w1, w1 = (w.alloc (.cells #[.int .u8 p0, .int .u8 p1, .int .u8 p2] 23)).alloc (.cells #[.int .u8 q0, .int .u8 q1, .int .u8 q2] 23) := ⟨_, rfl⟩
  have b : Below w.heap.size w w1 := by rw [hw1]; exact ((Below.refl _ w).alloc (Nat.le_refl _) _).alloc (by simp) _
  have hsz := b.size
  have kp : Blk w1 w.heap.size 23 [.int .u8 p0, .int .u8 p1, .int .u8 p2] := by rw [hw1]; exact (Blk.new w _ [.int .u8 p0, .int .u8 p1, .int .u8 p2]).alloc _
  have kq : Blk w1 (w.heap.size + 1) 23 [.int .u8 q0, .int .u8 q1, .int .u8 q2] := by
    have h := Blk.new (w.alloc (.cells #[.int .u8 p0, .int .u8 p1, .int .u8 p2] 23)) 23 [.int .u8 q0, .int .u8 q1, .int .u8 q2]
    rw [World.size_alloc] at h
    rw [hw1]; exact h
  go_enter Tryd.func3, Tryd.ntmps3
  go_upto_region 1 with fail
  rw [← hw1]
  clear hw1
  obtain ⟨B, hB⟩ : ∃ q, q = w.heap.size := ⟨_, rfl⟩
  have HB := Lib.hid hB
  have hrk : ∀ wx, Below B w wx → Rd wx A (u8s l) := fun wx hx => HR0.out.below (by rw [← HB.out]; exact hx)
  have hTb : ∀ wx, Below B w wx → Tab wx := fun wx hx => HT0.out.below (by rw [← HB.out]; exact hx)
  have HRK := Lib.hid hrk
  have HT := Lib.hid hTb
  rw [← hB] at kp kq hsz b ⊢
  clear hB hrk hTb HR0 HT0
  obtain ⟨d0, d1, d2⟩ := cells3 kp
  go_wp2_with fail
  with_reducible refine (HR1.out _ _ _ (HRK.out _ b)).mono ?_
  rintro e w2 ⟨A1, c1, rfl, r1, b2, _⟩
  replace kp := kp.bel b2
  replace kq := kq.bel b2
  replace b := b.trans (b2.mono hsz)
  replace hsz := Nat.le_trans hsz b2.size
  clear b2 d0 d1 d2
  go_upto_region 2 with fail
  obtain ⟨w3, hwv⟩ : ∃ x, x = w2.alloc (.cells #[.int .u8 x0, .int .u8 x1, .int .u8 x2] 23) := ⟨_, rfl⟩
  obtain ⟨G8, hG⟩ : ∃ q, q = w2.heap.size := ⟨_, rfl⟩
  rw [← hwv, ← hG]
  have b2 : Below w2.heap.size w2 w3 := by rw [hwv]; exact (Below.refl _ _).alloc (Nat.le_refl _) _
  have k8n : Blk w3 G8 23 [.int .u8 x0, .int .u8 x1, .int .u8 x2] := by rw [hwv, hG]; exact Blk.new w2 _ _
  clear hwv hG
  replace kp := kp.bel b2
  replace kq := kq.bel b2
  replace b := b.trans (b2.mono hsz)
  replace hsz := Nat.le_trans hsz b2.size
  replace r1 := r1.below b2
  have k8 := k8n
  clear k8n b2
  have cv : (convert 22 9 (.slice A1 n1 c1)).run Tryd.prog w3 = .ok (.string ⟨l1.toArray⟩) w3 := rd_string 22 9 5 Tryd.underlying22 Tryd.underlying5 Tryd.underlying9 HN1.out r1
  go_upto_region 3 with fail
  clear cv r1
  obtain ⟨d0, d1, d2⟩ := cells3 kq
  go_wp2_with fail
  with_reducible refine (HR2.out _ _ _ (HRK.out _ b)).mono ?_
  rintro e w4 ⟨A2, c2, rfl, r1, b2, _⟩
  replace kp := kp.bel b2
  replace kq := kq.bel b2
  replace k8 := k8.bel b2
  replace b := b.trans (b2.mono hsz)
  replace hsz := Nat.le_trans hsz b2.size
  clear b2 d0 d1 d2
  go_upto_region 4 with fail
  obtain ⟨w5, hwv⟩ : ∃ x, x = w4.alloc (.cells #[.int .u8 y0, .int .u8 y1, .int .u8 y2] 23) := ⟨_, rfl⟩
  obtain ⟨G13, hG⟩ : ∃ q, q = w4.heap.size := ⟨_, rfl⟩
  rw [← hwv, ← hG]
  have b2 : Below w4.heap.size w4 w5 := by rw [hwv]; exact (Below.refl _ _).alloc (Nat.le_refl _) _
  have k13n : Blk w5 G13 23 [.int .u8 y0, .int .u8 y1, .int .u8 y2] := by rw [hwv, hG]; exact Blk.new w4 _ _
  clear hwv hG
  replace kp := kp.bel b2
  replace kq := kq.bel b2
  replace k8 := k8.bel b2
  replace b := b.trans (b2.mono hsz)
  replace hsz := Nat.le_trans hsz b2.size
  replace r1 := r1.below b2
  have k13 := k13n
  clear k13n b2
  have cv : (convert 22 9 (.slice A2 n2 c2)).run Tryd.prog w5 = .ok (.string ⟨l2.toArray⟩) w5 := rd_string 22 9 5 Tryd.underlying22 Tryd.underlying5 Tryd.underlying9 HN2.out r1
  go_upto_region 5 with fail
  clear cv r1
  go_wp2_with fail
  with_reducible refine (marked_any A n cap l _ HL.out (HRK.out _ b) hm).mono ?_
  rintro e w6 ⟨gc, cp, spc, rfl, kc, hcp, hgc, b2⟩
  have hgcB : B < gc := Nat.lt_of_lt_of_le kp.lt hgc
  replace kp := kp.bel b2
  replace kq := kq.bel b2
  replace k8 := k8.bel b2
  replace k13 := k13.bel b2
  replace b := b.trans (b2.mono hsz)
  replace hsz := Nat.le_trans hsz b2.size
  obtain ⟨B5, hB5⟩ : ∃ q, q = w6.heap.size := ⟨_, rfl⟩
  have hg5 : gc < B5 := by rw [hB5]; exact kc.lt
  have hs5 : B5 ≤ w6.heap.size := Nat.le_of_eq hB5
  have H := Hold.nil 5 w6 B5
  clear b2 hB5
  obtain ⟨d0, d1, d2⟩ := cells3 kp
  go_wp2_with fail
  with_reducible refine (HF1.out _ _ _ (Rd.of_blk (mks_ins kc)) (HT.out _ b)).mono ?_
  rintro e w7 ⟨A6, c6, sp2, rfl, o2, f2, b2⟩
  replace kp := kp.bel b2
  replace kq := kq.bel b2
  replace k8 := k8.bel b2
  replace k13 := k13.bel b2
  replace kc := kc.bel b2
  replace H := H.snoc b2 (Owx.of_own o2) f2 hs5
  simp only [List.cons_append, List.nil_append] at H
  replace b := b.trans (b2.mono hsz)
  replace hsz := Nat.le_trans hsz b2.size
  replace hs5 := Nat.le_trans hs5 b2.size
  clear o2 f2 b2 d0 d1 d2
  go_upto_region 7 with fail
  obtain ⟨w8, hwv⟩ : ∃ x, x = w7.alloc (.cells #[.int .u8 x0, .int .u8 x1, .int .u8 x2] 23) := ⟨_, rfl⟩
  obtain ⟨G19, hG⟩ : ∃ q, q = w7.heap.size := ⟨_, rfl⟩
  rw [← hwv, ← hG]
  have b2 : Below w7.heap.size w7 w8 := by rw [hwv]; exact (Below.refl _ _).alloc (Nat.le_refl _) _
  have k19n : Blk w8 G19 23 [.int .u8 x0, .int .u8 x1, .int .u8 x2] := by rw [hwv, hG]; exact Blk.new w7 _ _
  clear hwv hG
  replace kp := kp.bel b2
  replace kq := kq.bel b2
  replace k8 := k8.bel b2
  replace k13 := k13.bel b2
  replace kc := kc.bel b2
  replace H := H.bel b2
  replace b := b.trans (b2.mono hsz)
  replace hsz := Nat.le_trans hsz b2.size
  replace hs5 := Nat.le_trans hs5 b2.size
  have k19 := k19n
  clear k19n b2
  obtain ⟨d0, d1, d2⟩ := cells3 kp
  go_wp2_with fail
  with_reducible refine (HF1.out _ _ _ (Rd.of_blk (mks_ins kc)) (HT.out _ b)).mono ?_
  rintro e w9 ⟨A7, c7, sp2, rfl, o2, f2, b2⟩
  replace kp := kp.bel b2
  replace kq := kq.bel b2
  replace k8 := k8.bel b2
  replace k13 := k13.bel b2
  replace kc := kc.bel b2
  replace k19 := k19.bel b2
  replace H := H.snoc b2 (Owx.of_own o2) f2 hs5
  simp only [List.cons_append, List.nil_append] at H
  replace b := b.trans (b2.mono hsz)
  replace hsz := Nat.le_trans hsz b2.size
  replace hs5 := Nat.le_trans hs5 b2.size
  clear o2 f2 b2 d0 d1 d2
  go_upto_region 8 with fail
  obtain ⟨w10, hwv⟩ : ∃ x, x = w9.alloc (.cells #[.int .u8 x0, .int .u8 x1, .int .u8 x2] 23) := ⟨_, rfl⟩
  obtain ⟨G23, hG⟩ : ∃ q, q = w9.heap.size := ⟨_, rfl⟩
  rw [← hwv, ← hG]
  have b2 : Below w9.heap.size w9 w10 := by rw [hwv]; exact (Below.refl _ _).alloc (Nat.le_refl _) _
  have k23n : Blk w10 G23 23 [.int .u8 x0, .int .u8 x1, .int .u8 x2] := by rw [hwv, hG]; exact Blk.new w9 _ _
  clear hwv hG
  replace kp := kp.bel b2
  replace kq := kq.bel b2
  replace k8 := k8.bel b2
  replace k13 := k13.bel b2
  replace kc := kc.bel b2
  replace k19 := k19.bel b2
  replace H := H.bel b2
  replace b := b.trans (b2.mono hsz)
  replace hsz := Nat.le_trans hsz b2.size
  replace hs5 := Nat.le_trans hs5 b2.size
  have k23 := k23n
  clear k23n b2
  clear k23
  obtain ⟨d0, d1, d2⟩ := cells3 kq
  go_wp2_with fail
  with_reducible refine (HF2.out _ _ _ (Rd.of_blk (mks_ins kc)) (HT.out _ b)).mono ?_
  rintro e w11 ⟨A8, c8, sp2, rfl, o2, f2, b2⟩
  replace kp := kp.bel b2
  replace kq := kq.bel b2
  replace k8 := k8.bel b2
  replace k13 := k13.bel b2
  replace kc := kc.bel b2
  replace k19 := k19.bel b2
  replace H := H.snoc b2 (Owx.of_own o2) f2 hs5
  simp only [List.cons_append, List.nil_append] at H
  replace b := b.trans (b2.mono hsz)
  replace hsz := Nat.le_trans hsz b2.size
  replace hs5 := Nat.le_trans hs5 b2.size
  clear o2 f2 b2 d0 d1 d2
  go_upto_region 9 with fail
  obtain ⟨w12, hwv⟩ : ∃ x, x = w11.alloc (.cells #[.int .u8 y0, .int .u8 y1, .int .u8 y2] 23) := ⟨_, rfl⟩
  obtain ⟨G27, hG⟩ : ∃ q, q = w11.heap.size := ⟨_, rfl⟩
  rw [← hwv, ← hG]
  have b2 : Below w11.heap.size w11 w12 := by rw [hwv]; exact (Below.refl _ _).alloc (Nat.le_refl _) _
  have k27n : Blk w12 G27 23 [.int .u8 y0, .int .u8 y1, .int .u8 y2] := by rw [hwv, hG]; exact Blk.new w11 _ _
  clear hwv hG
  replace kp := kp.bel b2
  replace kq := kq.bel b2
  replace k8 := k8.bel b2
  replace k13 := k13.bel b2
  replace kc := kc.bel b2
  replace k19 := k19.bel b2
  replace H := H.bel b2
  replace b := b.trans (b2.mono hsz)
  replace hsz := Nat.le_trans hsz b2.size
  replace hs5 := Nat.le_trans hs5 b2.size
  have k27 := k27n
  clear k27n b2
  obtain ⟨d0, d1, d2⟩ := cells3 kp
  go_wp2_with fail
  with_reducible refine (HF1.out _ _ _ (Rd.of_blk (mks_ins kc)) (HT.out _ b)).mono ?_
  rintro e w13 ⟨A9, c9, sp2, rfl, o2, f2, b2⟩
  replace kp := kp.bel b2
  replace kq := kq.bel b2
  replace k8 := k8.bel b2
  replace k13 := k13.bel b2
  replace kc := kc.bel b2
  replace k19 := k19.bel b2
  replace k27 := k27.bel b2
  replace H := H.snoc b2 (Owx.of_own o2) f2 hs5
  simp only [List.cons_append, List.nil_append] at H
  replace b := b.trans (b2.mono hsz)
  replace hsz := Nat.le_trans hsz b2.size
  replace hs5 := Nat.le_trans hs5 b2.size
  clear o2 f2 b2 d0 d1 d2
  go_upto_region 10 with fail
  obtain ⟨w14, hwv⟩ : ∃ x, x = w13.alloc (.cells #[.int .u8 x0, .int .u8 x1, .int .u8 x2] 23) := ⟨_, rfl⟩
  obtain ⟨G31, hG⟩ : ∃ q, q = w13.heap.size := ⟨_, rfl⟩
  rw [← hwv, ← hG]
  have b2 : Below w13.heap.size w13 w14 := by rw [hwv]; exact (Below.refl _ _).alloc (Nat.le_refl _) _
  have k31n : Blk w14 G31 23 [.int .u8 x0, .int .u8 x1, .int .u8 x2] := by rw [hwv, hG]; exact Blk.new w13 _ _
  clear hwv hG
  replace kp := kp.bel b2
  replace kq := kq.bel b2
  replace k8 := k8.bel b2
  replace k13 := k13.bel b2
  replace kc := kc.bel b2
  replace k19 := k19.bel b2
  replace k27 := k27.bel b2
  replace H := H.bel b2
  replace b := b.trans (b2.mono hsz)
  replace hsz := Nat.le_trans hsz b2.size
  replace hs5 := Nat.le_trans hs5 b2.size
  have k31 := k31n
  clear k31n b2
  clear k31
  have cv6 : (convert 22 9 (.slice A6 n1 c6)).run Tryd.prog w14 = .ok (.string ⟨l1.toArray⟩) w14 := rd_string 22 9 5 Tryd.underlying22 Tryd.underlying5 Tryd.underlying9 HN1.out (H.rd (i := 0) (n := n1) (c := c6) rfl)
  have cv7 : (convert 22 9 (.slice A7 n1 c7)).run Tryd.prog w14 = .ok (.string ⟨l1.toArray⟩) w14 := rd_string 22 9 5 Tryd.underlying22 Tryd.underlying5 Tryd.underlying9 HN1.out (H.rd (i := 1) (n := n1) (c := c7) rfl)
  have cv8 : (convert 22 9 (.slice A8 n2 c8)).run Tryd.prog w14 = .ok (.string ⟨l2.toArray⟩) w14 := rd_string 22 9 5 Tryd.underlying22 Tryd.underlying5 Tryd.underlying9 HN2.out (H.rd (i := 2) (n := n2) (c := c8) rfl)
  have cv9 : (convert 22 9 (.slice A9 n1 c9)).run Tryd.prog w14 = .ok (.string ⟨l1.toArray⟩) w14 := rd_string 22 9 5 Tryd.underlying22 Tryd.underlying5 Tryd.underlying9 HN1.out (H.rd (i := 3) (n := n1) (c := c9) rfl)
  obtain ⟨d0, d1, d2⟩ := cells3 k8
  obtain ⟨d3, d4, d5⟩ := cells3 k13
  obtain ⟨d6, d7, d8⟩ := cells3 k19
  obtain ⟨d9, d10, d11⟩ := cells3 k27
  have heq1 := eq_arr3_self x0 x1 x2
  have heq2 := eq_arr3_self y0 y1 y2
  go_wp2_with fail
  with_reducible refine (kept_true gc n cp cap A l spc _ HL.out kc hcp (HRK.out _ b) hm).mono ?_
  rintro e w15 ⟨rfl, hd⟩
  have b2 := bel_drawn hd
  clear cv6 cv7 cv8 cv9 d0 d1 d2 d3 d4 d5 d6 d7 d8 d9 d10 d11 heq1 heq2 k8 k13 k19 k27 hd
  replace kp := kp.bel b2
  replace kq := kq.bel b2
  replace kc := kc.bel b2
  replace H := H.bel b2
  replace b := b.trans (b2.mono hsz)
  replace hsz := Nat.le_trans hsz b2.size
  replace hs5 := Nat.le_trans hs5 b2.size
  clear b2
  have key : ∀ wy : World, (wy = w15 ∧ n = 0) ∨ (0 < n ∧ wy = w15.setCell ⟨gc, hf, none⟩ (.int .u8 (fv.toNat : Int))) →
      Blk wy gc 5 (u8s (lc ++ [161, 178, 195]) ++ spc) ∧ Blk wy B 23 [.int .u8 p0, .int .u8 p1, .int .u8 p2] ∧ Hold 5 wy B5 [(⟨A6, n1, c6⟩, l1), (⟨A7, n1, c7⟩, l1), (⟨A8, n2, c8⟩, l2), (⟨A9, n1, c9⟩, l1)] ∧ Below B w wy ∧ B ≤ wy.heap.size ∧ B5 ≤ wy.heap.size := by
    have hhf := HF.out
    rintro wy (⟨rfl, h0⟩ | ⟨h0, rfl⟩)
    · have he : lc = l := by
        have h1 := HL.out
        rw [HD.out, List.set_eq_of_length_le (by omega)]
      rw [he]
      exact ⟨kc, kp, H, b, hsz, hs5⟩
    · have hfr : Frm (fun q => q = gc) w15 (w15.setCell ⟨gc, hf, none⟩ (.int .u8 (fv.toNat : Int))) := (Frm.refl (fun q => q = gc) w15).setCell (p := ⟨gc, hf, none⟩) (fun _ => rfl) _
      refine ⟨?_, kp.far (p := ⟨gc, hf, none⟩) (show B ≠ gc by omega) _, H.frm hfr (fun i r L hi q hq hq2 => ?_), below_frm b hsz hfr (fun q hq => by rw [hq]; exact Nat.le_of_lt hgcB), by simpa using hsz, by simpa using hs5⟩
      · have h2 := kc.set_ (hf) (.int .u8 (fv.toNat : Int))
        have h1 := HL.out
        rw [List.set_append_left _ _ (by rw [u8s_length, List.length_append]; omega)] at h2
        rw [show (u8s (l ++ [161, 178, 195])).set (hf) (.int .u8 (fv.toNat : Int)) = u8s ((l ++ [161, 178, 195]).set (hf) fv) from u8s_set _ _ _, List.set_append_left _ _ (by omega), ← HD.out] at h2
        exact h2
      · have h3 := (H.at_ i r L hi).2 q hq
        omega
  have hcell : 0 < n → w15.cell? ⟨gc, hf, none⟩ = some (.int .u8 ((bt l hf).toNat : Int)) := fun h0 => by
    have h1 := HL.out
    have h2 := HF.out
    rw [kc.cell, List.getElem?_append_left (by rw [u8s_length, List.length_append]; omega), u8s_bt _ _ (by rw [List.length_append]; omega), bt_front _ _ _ (by omega)]
  have hfz := kc.frozen (hf)
  have hxb : Go.bits .xor .u8 ((bt l hf).toNat : Int) 90 = (fv.toNat : Int) := by rw [HFV.out]; exact u8_xor_b (bt l hf) 90
  have KEY := Lib.hid key
  clear key H kp kq kc
  by_cases hn0 : 0 < n
  · have hc0 := hcell hn0
    have hn0i : (0 : Int) < (n : Int) := by omega
    have hdiv : ((n : Nat) : Int) / 2 = ((hf : Nat) : Int) := by have := HF.out; omega
    have hlt : hf < n := by have := HF.out; omega
    clear hcell
    go_upto_region 14 with fail
    obtain ⟨we, hwc⟩ : ∃ x, x = w15.setCell ⟨gc, hf, none⟩ (.int .u8 (fv.toNat : Int)) := ⟨_, rfl⟩
    obtain ⟨kc, kp, H, b, hsz, hs5⟩ := KEY.out we (.inr ⟨hn0, hwc⟩)
    rw [← hwc]
    clear hwc KEY
    go_cut [34, 35, 36, 10] (fun a b c d wx => FixD we wx l3 n3 k3 e3 z0 z1 z2 a b c d)
    case first =>
      have hBl := kp.lt
      have kpd : Blk we.drew B 23 [.int .u8 p0, .int .u8 p1, .int .u8 p2] := kp
      have rc : Rd we (some ⟨gc, 0, none⟩) (u8s lc) := Rd.of_blk (mks_ins kc)
      obtain ⟨d0, d1, d2⟩ := cells3 kp
      have oE1 := (owx_empty we 5).drew
      have oE2 : Owx ((we.alloc (.cells #[.int .u8 0, .int .u8 0, .int .u8 0] 23)).alloc (.cells #[] 5)).drew 5 1 (.slice (some ⟨we.heap.size + 1, 0, none⟩) 0 0) 0 [] [] := by have h := (owx_empty (we.alloc (.cells #[.int .u8 0, .int .u8 0, .int .u8 0] 23)) 5).drew; rw [World.size_alloc] at h; exact h
      have oE3 := ((owx_empty we 5).alloc (.cells #[.int .u8 0, .int .u8 0, .int .u8 0] 23)).drew
      have zb3 : Blk ((we.alloc (.cells #[] 5)).alloc (.cells #[.int .u8 0, .int .u8 0, .int .u8 0] 23)) (we.heap.size + 1) 23 [.int .u8 0, .int .u8 0, .int .u8 0] := by have h := Blk.new (we.alloc (.cells #[] 5)) 23 [.int .u8 0, .int .u8 0, .int .u8 0]; rw [World.size_alloc] at h; exact h
      have zb2 : Blk ((we.alloc (.cells #[.int .u8 0, .int .u8 0, .int .u8 0] 23)).alloc (.cells #[] 5)) we.heap.size 23 [.int .u8 0, .int .u8 0, .int .u8 0] := (Blk.new we 23 [.int .u8 0, .int .u8 0, .int .u8 0]).alloc _
      have qE1 : Below we.heap.size we (we.alloc (.cells #[] 5)) := (Below.refl _ we).alloc (Nat.le_refl _) _
      have qE2 : Below we.heap.size we ((we.alloc (.cells #[.int .u8 0, .int .u8 0, .int .u8 0] 23)).alloc (.cells #[] 5)) := ((Below.refl _ we).alloc (Nat.le_refl _) _).alloc (by simp) _
      have qE3 : Below we.heap.size we ((we.alloc (.cells #[] 5)).alloc (.cells #[.int .u8 0, .int .u8 0, .int .u8 0] 23)) := ((Below.refl _ we).alloc (Nat.le_refl _) _).alloc (by simp) _
      go_region_held3 (fun wx => wx.cell? ⟨B, 0, none⟩ = some (.int .u8 p0) ∧ wx.cell? ⟨B, 1, none⟩ = some (.int .u8 p1) ∧ wx.cell? ⟨B, 2, none⟩ = some (.int .u8 p2)) (first | (with_reducible exact cells3 kp.drew) | (with_reducible exact cells3 (kp.alloc _).drew) | (with_reducible exact cells3 ((kp.alloc _).alloc _).drew) | (with_reducible exact cells3 kb5) | (with_reducible exact cells3 (kb5.alloc _)) | (with_reducible exact cells3 kb6) | (with_reducible exact cells3 (kb6.alloc _)) | (with_reducible exact cells3 (far3 _ _ _ kb6 (by omega))) | go_keep) (first
        | ((with_reducible refine at_world ((we.alloc (.cells #[] 5)).drew) ?_); refine step_appx _ (by rfl) (.tmp 168) (.tmp 169) 22 (by rfl) 5 _ 1 1 Tryd.underlying22 info5 rfl (by decide) (by rfl) oE1 (by rfl) (by rw [u8s_length, HLC.out]; exact (Nat.mul_one _).symm) (rc.alloc _).drew (one_u8s _) (by unfold maxLen; omega) (by omega) ?_; intro v1 w5 sp1 o1 y1; have q5 : Below we.heap.size we w5 := below_frm (bel_drew qE1) qE1.size y1.frm (fun k hk => by cases hk; exact Nat.le_refl _); simp only [Nat.zero_add, List.nil_append] at o1; obtain ⟨A10, c10, rfl, _, r10⟩ := o1.rd; have kb5 := kp.bel q5; have hq5 := q5.size; dsimp only)
        | ((with_reducible refine at_world (((we.alloc (.cells _ 23)).alloc (.cells #[] 5)).drew) ?_); refine step_appx _ (by rfl) (.tmp 168) (.tmp 169) 22 (by rfl) 5 _ 1 1 Tryd.underlying22 info5 rfl (by decide) (by rfl) oE2 (by rfl) (by rw [u8s_length, HLC.out]; exact (Nat.mul_one _).symm) ((rc.alloc _).alloc _).drew (one_u8s _) (by unfold maxLen; omega) (by omega) ?_; intro v1 w5 sp1 o1 y1; have q5 : Below we.heap.size we w5 := below_frm (bel_drew qE2) qE2.size y1.frm (fun k hk => by cases hk; exact Nat.le_succ _); have zb : Blk w5 we.heap.size 23 [.int .u8 0, .int .u8 0, .int .u8 0] := zb2.drew.frm y1.frm (fun hk => by have h3 : we.heap.size + 1 = we.heap.size := Option.some.inj hk; omega); simp only [Nat.zero_add, List.nil_append] at o1; obtain ⟨A10, c10, rfl, _, r10⟩ := o1.rd; have kb5 := kp.bel q5; have hq5 := q5.size; have hz6 : ∀ q, (Value.slice A10 n c10).ownBlock = some q → q ≠ we.heap.size := fun q hq e => (by subst e; exact own_other (u := 23) o1 (by decide) _ _ hq zb); have hzl := zb.lt; dsimp only)
        | ((with_reducible refine at_world (((we.alloc (.cells #[] 5)).alloc (.cells _ 23)).drew) ?_); refine step_appx _ (by rfl) (.tmp 168) (.tmp 169) 22 (by rfl) 5 _ 1 1 Tryd.underlying22 info5 rfl (by decide) (by rfl) oE3 (by rfl) (by rw [u8s_length, HLC.out]; exact (Nat.mul_one _).symm) ((rc.alloc _).alloc _).drew (one_u8s _) (by unfold maxLen; omega) (by omega) ?_; intro v1 w5 sp1 o1 y1; have q5 : Below we.heap.size we w5 := below_frm (bel_drew qE3) qE3.size y1.frm (fun k hk => by cases hk; exact Nat.le_refl _); have zb : Blk w5 (we.heap.size + 1) 23 [.int .u8 0, .int .u8 0, .int .u8 0] := zb3.drew.frm y1.frm (fun hk => by have h3 : we.heap.size = we.heap.size + 1 := Option.some.inj hk; omega); simp only [Nat.zero_add, List.nil_append] at o1; obtain ⟨A10, c10, rfl, _, r10⟩ := o1.rd; have kb5 := kp.bel q5; have hq5 := q5.size; have hz6 : ∀ q, (Value.slice A10 n c10).ownBlock = some q → q ≠ (we.heap.size + 1) := fun q hq e => (by subst e; exact own_other (u := 23) o1 (by decide) _ _ hq zb); have hzl := zb.lt; dsimp only)
        | (go_at_call 8; first
            | ((with_reducible refine (HR3.out A10 c10 _ r10).mono ?_); rintro e w6 ⟨A11, c11, rfl, r6, b6, hA⟩; have q6 : Below we.heap.size we w6 := q5.trans (b6.mono q5.size); have kb6 := kb5.bel b6; (try (have zb6 := zb.bel b6)))
            | ((with_reducible refine (HR3.out A10 c10 _ (r10.alloc _)).mono ?_); rintro e w6 ⟨A11, c11, rfl, r6, b6, hA⟩; have q6 : Below we.heap.size we w6 := (q5.alloc q5.size _).trans (b6.mono (q5.alloc q5.size _).size); have kb6 := (kb5.alloc (.cells #[.int .u8 0, .int .u8 0, .int .u8 0] 23)).bel b6; have zb : Blk (w5.alloc (.cells #[.int .u8 0, .int .u8 0, .int .u8 0] 23)) w5.heap.size 23 [.int .u8 0, .int .u8 0, .int .u8 0] := Blk.new w5 _ _; have zb6 := zb.bel b6; have hz6 : ∀ q, (Value.slice A10 n c10).ownBlock = some q → q ≠ w5.heap.size := fun q hq e => (by subst e; exact own_other (u := 23) (o1.alloc (.cells #[.int .u8 0, .int .u8 0, .int .u8 0] 23)) (by decide) _ _ hq zb); have hzl := zb.lt)
           (try (obtain ⟨t0, t1, t2⟩ := cells3 zb6; have y0 := zb6.frozen 0; have y1 := zb6.frozen 1; have y2 := zb6.frozen 2)); dsimp only))
      all_goals
        (first
         | (obtain ⟨w9, hw9⟩ : ∃ x, x = w6.alloc (.cells #[.int .u8 z0, .int .u8 z1, .int .u8 z2] 23) := ⟨_, rfl⟩
            rw [← hw9]
            have k9 : Blk w9 w6.heap.size 23 [.int .u8 z0, .int .u8 z1, .int .u8 z2] := by rw [hw9]; exact Blk.new w6 _ _
            have q9 : Below we.heap.size we w9 := by rw [hw9]; exact q6.alloc q6.size _
            have r9 : Rd w9 A11 (u8s l3) := by rw [hw9]; exact r6.alloc _
            go_wp2_with fail
            go_meet
            exact ⟨A11, c11, _, rfl, rfl, rfl, rfl, r9, k9, q9⟩)
         | (obtain ⟨k9, q9, r9⟩ := finD z0 z1 z2 zb6 q6 (by first | exact q5.size | omega) r6 hA hzl hz6
            go_wp2_with fail
            go_meet
            exact ⟨A11, c11, _, rfl, rfl, rfl, rfl, r9, k9, q9⟩))
    case rest =>
      generalize wc = w17 at *
      obtain ⟨A13, c13, G35, rfl, rfl, rfl, rfl, r13, k35, b2⟩ := hcut
      replace kp := kp.bel b2
      replace kc := kc.bel b2
      replace H := H.bel b2
      replace b := b.trans (b2.mono hsz)
      replace hsz := Nat.le_trans hsz b2.size
      replace hs5 := Nat.le_trans hs5 b2.size
      clear b2
      obtain ⟨d0, d1, d2⟩ := cells3 kp
      go_wp2_with fail
      with_reducible refine (HF3.out _ _ _ (Rd.of_blk (mks_ins kc)) (HT.out _ b)).mono ?_
      rintro e w18 ⟨A12, c12, sp2, rfl, o2, f2, b2⟩
      replace kp := kp.bel b2
      replace kc := kc.bel b2
      replace k35 := k35.bel b2
      replace r13 := r13.below b2
      replace H := H.snoc b2 (Owx.of_own o2) f2 hs5
      simp only [List.cons_append, List.nil_append] at H
      replace b := b.trans (b2.mono hsz)
      replace hsz := Nat.le_trans hsz b2.size
      replace hs5 := Nat.le_trans hs5 b2.size
      clear o2 f2 b2 d0 d1 d2
      go_upto_region 16 with fail
      obtain ⟨w19, hwv⟩ : ∃ x, x = w18.alloc (.cells #[.int .u8 z0, .int .u8 z1, .int .u8 z2] 23) := ⟨_, rfl⟩
      obtain ⟨G38, hG⟩ : ∃ q, q = w18.heap.size := ⟨_, rfl⟩
      rw [← hwv, ← hG]
      have b2 : Below w18.heap.size w18 w19 := by rw [hwv]; exact (Below.refl _ _).alloc (Nat.le_refl _) _
      have k38n : Blk w19 G38 23 [.int .u8 z0, .int .u8 z1, .int .u8 z2] := by rw [hwv, hG]; exact Blk.new w18 _ _
      clear hwv hG
      replace kp := kp.bel b2
      replace kc := kc.bel b2
      replace k35 := k35.bel b2
      replace H := H.bel b2
      replace b := b.trans (b2.mono hsz)
      replace hsz := Nat.le_trans hsz b2.size
      replace r13 := r13.below b2
      replace hs5 := Nat.le_trans hs5 b2.size
      have k38 := k38n
      clear k38n b2
      have cv1 : (convert 22 9 (.slice A12 n3 c12)).run Tryd.prog w19 = .ok (.string ⟨l3.toArray⟩) w19 := rd_string 22 9 5 Tryd.underlying22 Tryd.underlying5 Tryd.underlying9 HN3.out (H.rd (i := 4) (n := n3) (c := c12) rfl)
      have cv2 : (convert 22 9 (.slice A13 n3 c13)).run Tryd.prog w19 = .ok (.string ⟨l3.toArray⟩) w19 := rd_string 22 9 5 Tryd.underlying22 Tryd.underlying5 Tryd.underlying9 HN3.out r13
      obtain ⟨d0, d1, d2⟩ := cells3 k38
      obtain ⟨d3, d4, d5⟩ := cells3 k35
      have heq1 := eq_arr3_self z0 z1 z2
      go_upto_region 18 with fail
      clear cv1 cv2 d0 d1 d2 d3 d4 d5 heq1 k38 k35 r13
      obtain ⟨hdis, hrows⟩ := H.picked [0, 1, 2, 3, 4] (by decide) (by intro c hc; simp only [List.mem_cons, List.not_mem_nil, or_false] at hc; simp only [List.length_cons, List.length_nil]; omega)
      have hall : ∀ r ∈ Hold.pick [((⟨A6, n1, c6⟩ : Row), l1), (⟨A7, n1, c7⟩, l1), (⟨A8, n2, c8⟩, l2), (⟨A9, n1, c9⟩, l1), (⟨A12, n3, c12⟩, l3)] [0, 1, 2, 3, 4], r.n ≤ 140737488355000 := by
        intro r hr'
        simp only [Hold.pick, List.map_cons, List.map_nil, List.mem_cons, List.not_mem_nil, or_false] at hr'
        rcases hr' with rfl | rfl | rfl | rfl | rfl
        all_goals (show (_ : Nat) ≤ _; simp only [List.getD_cons_succ, List.getD_cons_zero]; omega)
      have hu := own_any w19.heap.size 5 5 (Hold.pick [((⟨A6, n1, c6⟩ : Row), l1), (⟨A7, n1, c7⟩, l1), (⟨A8, n2, c8⟩, l2), (⟨A9, n1, c9⟩, l1), (⟨A12, n3, c12⟩, l3)] [0, 1, 2, 3, 4]) [] (w19.alloc (.cells #[.slice A6 n1 c6, .slice A7 n1 c7, .slice A8 n2 c8, .slice A9 n1 c9, .slice A12 n3 c12] 22)) rfl (Blk.new w19 22 [.slice A6 n1 c6, .slice A7 n1 c7, .slice A8 n2 c8, .slice A9 n1 c9, .slice A12 n3 c12]) hdis (by decide) (fun j r hj => ⟨by obtain ⟨⟨xs, sp, o⟩, _⟩ := hrows j r hj; exact ⟨xs, sp, o.alloc _⟩, hall r (List.mem_of_getElem? hj)⟩)
      have hlo : ∀ q, Of (Hold.pick [((⟨A6, n1, c6⟩ : Row), l1), (⟨A7, n1, c7⟩, l1), (⟨A8, n2, c8⟩, l2), (⟨A9, n1, c9⟩, l1), (⟨A12, n3, c12⟩, l3)] [0, 1, 2, 3, 4]) q → B ≤ q := fun q ⟨j, r, hj, hq⟩ => by have h1 := (hrows j r hj).2 q hq; omega
      have HLO := Lib.hid hlo
      have HU := Lib.hid hu
      clear hlo hu hall hrows hdis H
      go_wp2_with fail
      have b0 : Below B w (w19.alloc (.cells #[.slice A6 n1 c6, .slice A7 n1 c7, .slice A8 n2 c8, .slice A9 n1 c9, .slice A12 n3 c12] 22)) := b.alloc hsz _
      with_reducible refine HU.out.mono ?_
      rintro e w' ⟨rfl, hfx⟩
      have b2 := below_frm b0 (by simp; omega) hfx HLO.out
      clear hfx HU HLO b0 b
      go_wp2
      go_ret
      exact ⟨rfl, by rw [← HB.out]; exact b2⟩
  · have hn0i : ¬ (0 : Int) < (n : Int) := by omega
    clear hcell hxb
    go_upto_region 14 with fail
    obtain ⟨we, hwc⟩ : ∃ x, x = w15 := ⟨_, rfl⟩
    obtain ⟨kc, kp, H, b, hsz, hs5⟩ := KEY.out we (.inl ⟨hwc, by omega⟩)
    rw [← hwc]
    clear hwc KEY
    go_cut [34, 35, 36, 10] (fun a b c d wx => FixD we wx l3 n3 k3 e3 z0 z1 z2 a b c d)
    case first =>
      have hBl := kp.lt
      have kpd : Blk we.drew B 23 [.int .u8 p0, .int .u8 p1, .int .u8 p2] := kp
      have rc : Rd we (some ⟨gc, 0, none⟩) (u8s lc) := Rd.of_blk (mks_ins kc)
      obtain ⟨d0, d1, d2⟩ := cells3 kp
      have oE1 := (owx_empty we 5).drew
      have oE2 : Owx ((we.alloc (.cells #[.int .u8 0, .int .u8 0, .int .u8 0] 23)).alloc (.cells #[] 5)).drew 5 1 (.slice (some ⟨we.heap.size + 1, 0, none⟩) 0 0) 0 [] [] := by have h := (owx_empty (we.alloc (.cells #[.int .u8 0, .int .u8 0, .int .u8 0] 23)) 5).drew; rw [World.size_alloc] at h; exact h
      have oE3 := ((owx_empty we 5).alloc (.cells #[.int .u8 0, .int .u8 0, .int .u8 0] 23)).drew
      have zb3 : Blk ((we.alloc (.cells #[] 5)).alloc (.cells #[.int .u8 0, .int .u8 0, .int .u8 0] 23)) (we.heap.size + 1) 23 [.int .u8 0, .int .u8 0, .int .u8 0] := by have h := Blk.new (we.alloc (.cells #[] 5)) 23 [.int .u8 0, .int .u8 0, .int .u8 0]; rw [World.size_alloc] at h; exact h
      have zb2 : Blk ((we.alloc (.cells #[.int .u8 0, .int .u8 0, .int .u8 0] 23)).alloc (.cells #[] 5)) we.heap.size 23 [.int .u8 0, .int .u8 0, .int .u8 0] := (Blk.new we 23 [.int .u8 0, .int .u8 0, .int .u8 0]).alloc _
      have qE1 : Below we.heap.size we (we.alloc (.cells #[] 5)) := (Below.refl _ we).alloc (Nat.le_refl _) _
      have qE2 : Below we.heap.size we ((we.alloc (.cells #[.int .u8 0, .int .u8 0, .int .u8 0] 23)).alloc (.cells #[] 5)) := ((Below.refl _ we).alloc (Nat.le_refl _) _).alloc (by simp) _
      have qE3 : Below we.heap.size we ((we.alloc (.cells #[] 5)).alloc (.cells #[.int .u8 0, .int .u8 0, .int .u8 0] 23)) := ((Below.refl _ we).alloc (Nat.le_refl _) _).alloc (by simp) _
      go_region_held3 (fun wx => wx.cell? ⟨B, 0, none⟩ = some (.int .u8 p0) ∧ wx.cell? ⟨B, 1, none⟩ = some (.int .u8 p1) ∧ wx.cell? ⟨B, 2, none⟩ = some (.int .u8 p2)) (first | (with_reducible exact cells3 kp.drew) | (with_reducible exact cells3 (kp.alloc _).drew) | (with_reducible exact cells3 ((kp.alloc _).alloc _).drew) | (with_reducible exact cells3 kb5) | (with_reducible exact cells3 (kb5.alloc _)) | (with_reducible exact cells3 kb6) | (with_reducible exact cells3 (kb6.alloc _)) | (with_reducible exact cells3 (far3 _ _ _ kb6 (by omega))) | go_keep) (first
        | ((with_reducible refine at_world ((we.alloc (.cells #[] 5)).drew) ?_); refine step_appx _ (by rfl) (.tmp 168) (.tmp 169) 22 (by rfl) 5 _ 1 1 Tryd.underlying22 info5 rfl (by decide) (by rfl) oE1 (by rfl) (by rw [u8s_length, HLC.out]; exact (Nat.mul_one _).symm) (rc.alloc _).drew (one_u8s _) (by unfold maxLen; omega) (by omega) ?_; intro v1 w5 sp1 o1 y1; have q5 : Below we.heap.size we w5 := below_frm (bel_drew qE1) qE1.size y1.frm (fun k hk => by cases hk; exact Nat.le_refl _); simp only [Nat.zero_add, List.nil_append] at o1; obtain ⟨A10, c10, rfl, _, r10⟩ := o1.rd; have kb5 := kp.bel q5; have hq5 := q5.size; dsimp only)
        | ((with_reducible refine at_world (((we.alloc (.cells _ 23)).alloc (.cells #[] 5)).drew) ?_); refine step_appx _ (by rfl) (.tmp 168) (.tmp 169) 22 (by rfl) 5 _ 1 1 Tryd.underlying22 info5 rfl (by decide) (by rfl) oE2 (by rfl) (by rw [u8s_length, HLC.out]; exact (Nat.mul_one _).symm) ((rc.alloc _).alloc _).drew (one_u8s _) (by unfold maxLen; omega) (by omega) ?_; intro v1 w5 sp1 o1 y1; have q5 : Below we.heap.size we w5 := below_frm (bel_drew qE2) qE2.size y1.frm (fun k hk => by cases hk; exact Nat.le_succ _); have zb : Blk w5 we.heap.size 23 [.int .u8 0, .int .u8 0, .int .u8 0] := zb2.drew.frm y1.frm (fun hk => by have h3 : we.heap.size + 1 = we.heap.size := Option.some.inj hk; omega); simp only [Nat.zero_add, List.nil_append] at o1; obtain ⟨A10, c10, rfl, _, r10⟩ := o1.rd; have kb5 := kp.bel q5; have hq5 := q5.size; have hz6 : ∀ q, (Value.slice A10 n c10).ownBlock = some q → q ≠ we.heap.size := fun q hq e => (by subst e; exact own_other (u := 23) o1 (by decide) _ _ hq zb); have hzl := zb.lt; dsimp only)
        | ((with_reducible refine at_world (((we.alloc (.cells #[] 5)).alloc (.cells _ 23)).drew) ?_); refine step_appx _ (by rfl) (.tmp 168) (.tmp 169) 22 (by rfl) 5 _ 1 1 Tryd.underlying22 info5 rfl (by decide) (by rfl) oE3 (by rfl) (by rw [u8s_length, HLC.out]; exact (Nat.mul_one _).symm) ((rc.alloc _).alloc _).drew (one_u8s _) (by unfold maxLen; omega) (by omega) ?_; intro v1 w5 sp1 o1 y1; have q5 : Below we.heap.size we w5 := below_frm (bel_drew qE3) qE3.size y1.frm (fun k hk => by cases hk; exact Nat.le_refl _); have zb : Blk w5 (we.heap.size + 1) 23 [.int .u8 0, .int .u8 0, .int .u8 0] := zb3.drew.frm y1.frm (fun hk => by have h3 : we.heap.size = we.heap.size + 1 := Option.some.inj hk; omega); simp only [Nat.zero_add, List.nil_append] at o1; obtain ⟨A10, c10, rfl, _, r10⟩ := o1.rd; have kb5 := kp.bel q5; have hq5 := q5.size; have hz6 : ∀ q, (Value.slice A10 n c10).ownBlock = some q → q ≠ (we.heap.size + 1) := fun q hq e => (by subst e; exact own_other (u := 23) o1 (by decide) _ _ hq zb); have hzl := zb.lt; dsimp only)
        | (go_at_call 8; first
            | ((with_reducible refine (HR3.out A10 c10 _ r10).mono ?_); rintro e w6 ⟨A11, c11, rfl, r6, b6, hA⟩; have q6 : Below we.heap.size we w6 := q5.trans (b6.mono q5.size); have kb6 := kb5.bel b6; (try (have zb6 := zb.bel b6)))
            | ((with_reducible refine (HR3.out A10 c10 _ (r10.alloc _)).mono ?_); rintro e w6 ⟨A11, c11, rfl, r6, b6, hA⟩; have q6 : Below we.heap.size we w6 := (q5.alloc q5.size _).trans (b6.mono (q5.alloc q5.size _).size); have kb6 := (kb5.alloc (.cells #[.int .u8 0, .int .u8 0, .int .u8 0] 23)).bel b6; have zb : Blk (w5.alloc (.cells #[.int .u8 0, .int .u8 0, .int .u8 0] 23)) w5.heap.size 23 [.int .u8 0, .int .u8 0, .int .u8 0] := Blk.new w5 _ _; have zb6 := zb.bel b6; have hz6 : ∀ q, (Value.slice A10 n c10).ownBlock = some q → q ≠ w5.heap.size := fun q hq e => (by subst e; exact own_other (u := 23) (o1.alloc (.cells #[.int .u8 0, .int .u8 0, .int .u8 0] 23)) (by decide) _ _ hq zb); have hzl := zb.lt)
           (try (obtain ⟨t0, t1, t2⟩ := cells3 zb6; have y0 := zb6.frozen 0; have y1 := zb6.frozen 1; have y2 := zb6.frozen 2)); dsimp only))
      all_goals
        (first
         | (obtain ⟨w9, hw9⟩ : ∃ x, x = w6.alloc (.cells #[.int .u8 z0, .int .u8 z1, .int .u8 z2] 23) := ⟨_, rfl⟩
            rw [← hw9]
            have k9 : Blk w9 w6.heap.size 23 [.int .u8 z0, .int .u8 z1, .int .u8 z2] := by rw [hw9]; exact Blk.new w6 _ _
            have q9 : Below we.heap.size we w9 := by rw [hw9]; exact q6.alloc q6.size _
            have r9 : Rd w9 A11 (u8s l3) := by rw [hw9]; exact r6.alloc _
            go_wp2_with fail
            go_meet
            exact ⟨A11, c11, _, rfl, rfl, rfl, rfl, r9, k9, q9⟩)
         | (obtain ⟨k9, q9, r9⟩ := finD z0 z1 z2 zb6 q6 (by first | exact q5.size | omega) r6 hA hzl hz6
            go_wp2_with fail
            go_meet
            exact ⟨A11, c11, _, rfl, rfl, rfl, rfl, r9, k9, q9⟩))
    case rest =>
      generalize wc = w17 at *
      obtain ⟨A13, c13, G35, rfl, rfl, rfl, rfl, r13, k35, b2⟩ := hcut
      replace kp := kp.bel b2
      replace kc := kc.bel b2
      replace H := H.bel b2
      replace b := b.trans (b2.mono hsz)
      replace hsz := Nat.le_trans hsz b2.size
      replace hs5 := Nat.le_trans hs5 b2.size
      clear b2
      obtain ⟨d0, d1, d2⟩ := cells3 kp
      go_wp2_with fail
      with_reducible refine (HF3.out _ _ _ (Rd.of_blk (mks_ins kc)) (HT.out _ b)).mono ?_
      rintro e w18 ⟨A12, c12, sp2, rfl, o2, f2, b2⟩
      replace kp := kp.bel b2
      replace kc := kc.bel b2
      replace k35 := k35.bel b2
      replace r13 := r13.below b2
      replace H := H.snoc b2 (Owx.of_own o2) f2 hs5
      simp only [List.cons_append, List.nil_append] at H
      replace b := b.trans (b2.mono hsz)
      replace hsz := Nat.le_trans hsz b2.size
      replace hs5 := Nat.le_trans hs5 b2.size
      clear o2 f2 b2 d0 d1 d2
      go_upto_region 16 with fail
      obtain ⟨w19, hwv⟩ : ∃ x, x = w18.alloc (.cells #[.int .u8 z0, .int .u8 z1, .int .u8 z2] 23) := ⟨_, rfl⟩
      obtain ⟨G38, hG⟩ : ∃ q, q = w18.heap.size := ⟨_, rfl⟩
      rw [← hwv, ← hG]
      have b2 : Below w18.heap.size w18 w19 := by rw [hwv]; exact (Below.refl _ _).alloc (Nat.le_refl _) _
      have k38n : Blk w19 G38 23 [.int .u8 z0, .int .u8 z1, .int .u8 z2] := by rw [hwv, hG]; exact Blk.new w18 _ _
      clear hwv hG
      replace kp := kp.bel b2
      replace kc := kc.bel b2
      replace k35 := k35.bel b2
      replace H := H.bel b2
      replace b := b.trans (b2.mono hsz)
      replace hsz := Nat.le_trans hsz b2.size
      replace r13 := r13.below b2
      replace hs5 := Nat.le_trans hs5 b2.size
      have k38 := k38n
      clear k38n b2
      have cv1 : (convert 22 9 (.slice A12 n3 c12)).run Tryd.prog w19 = .ok (.string ⟨l3.toArray⟩) w19 := rd_string 22 9 5 Tryd.underlying22 Tryd.underlying5 Tryd.underlying9 HN3.out (H.rd (i := 4) (n := n3) (c := c12) rfl)
      have cv2 : (convert 22 9 (.slice A13 n3 c13)).run Tryd.prog w19 = .ok (.string ⟨l3.toArray⟩) w19 := rd_string 22 9 5 Tryd.underlying22 Tryd.underlying5 Tryd.underlying9 HN3.out r13
      obtain ⟨d0, d1, d2⟩ := cells3 k38
      obtain ⟨d3, d4, d5⟩ := cells3 k35
      have heq1 := eq_arr3_self z0 z1 z2
      go_upto_region 18 with fail
      clear cv1 cv2 d0 d1 d2 d3 d4 d5 heq1 k38 k35 r13
      obtain ⟨hdis, hrows⟩ := H.picked [0, 1, 2, 3, 4] (by decide) (by intro c hc; simp only [List.mem_cons, List.not_mem_nil, or_false] at hc; simp only [List.length_cons, List.length_nil]; omega)
      have hall : ∀ r ∈ Hold.pick [((⟨A6, n1, c6⟩ : Row), l1), (⟨A7, n1, c7⟩, l1), (⟨A8, n2, c8⟩, l2), (⟨A9, n1, c9⟩, l1), (⟨A12, n3, c12⟩, l3)] [0, 1, 2, 3, 4], r.n ≤ 140737488355000 := by
        intro r hr'
        simp only [Hold.pick, List.map_cons, List.map_nil, List.mem_cons, List.not_mem_nil, or_false] at hr'
        rcases hr' with rfl | rfl | rfl | rfl | rfl
        all_goals (show (_ : Nat) ≤ _; simp only [List.getD_cons_succ, List.getD_cons_zero]; omega)
      have hu := own_any w19.heap.size 5 5 (Hold.pick [((⟨A6, n1, c6⟩ : Row), l1), (⟨A7, n1, c7⟩, l1), (⟨A8, n2, c8⟩, l2), (⟨A9, n1, c9⟩, l1), (⟨A12, n3, c12⟩, l3)] [0, 1, 2, 3, 4]) [] (w19.alloc (.cells #[.slice A6 n1 c6, .slice A7 n1 c7, .slice A8 n2 c8, .slice A9 n1 c9, .slice A12 n3 c12] 22)) rfl (Blk.new w19 22 [.slice A6 n1 c6, .slice A7 n1 c7, .slice A8 n2 c8, .slice A9 n1 c9, .slice A12 n3 c12]) hdis (by decide) (fun j r hj => ⟨by obtain ⟨⟨xs, sp, o⟩, _⟩ := hrows j r hj; exact ⟨xs, sp, o.alloc _⟩, hall r (List.mem_of_getElem? hj)⟩)
      have hlo : ∀ q, Of (Hold.pick [((⟨A6, n1, c6⟩ : Row), l1), (⟨A7, n1, c7⟩, l1), (⟨A8, n2, c8⟩, l2), (⟨A9, n1, c9⟩, l1), (⟨A12, n3, c12⟩, l3)] [0, 1, 2, 3, 4]) q → B ≤ q := fun q ⟨j, r, hj, hq⟩ => by have h1 := (hrows j r hj).2 q hq; omega
      have HLO := Lib.hid hlo
      have HU := Lib.hid hu
      clear hlo hu hall hrows hdis H
      go_wp2_with fail
      have b0 : Below B w (w19.alloc (.cells #[.slice A6 n1 c6, .slice A7 n1 c7, .slice A8 n2 c8, .slice A9 n1 c9, .slice A12 n3 c12] 22)) := b.alloc hsz _
      with_reducible refine HU.out.mono ?_
      rintro e w' ⟨rfl, hfx⟩
      have b2 := below_frm b0 (by simp; omega) hfx HLO.out
      clear hfx HU HLO b0 b
      go_wp2
      go_ret
      exact ⟨rfl, by rw [← HB.out]; exact b2⟩
end Go.Proofs.YtafjnkmfebibfaaDoor
