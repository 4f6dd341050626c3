/- The law WordsFalls: its walk. -/
import Derived.Test.YtelpdcggpahocaaLw2
import Derived.Test.YtelpdcggpahocaaW4
namespace Go.Proofs.Ytelpdcggpahocaa
open Go.RowKit
set_option linter.unusedVariables false
set_option linter.unusedSimpArgs false
theorem below_al {w wx : World} (h : Below w.heap.size w wx) (o : Obj) : Below w.heap.size w (wx.alloc o) := h.alloc h.size o
theorem own_str {w : World} {v : Value} {l : List UInt8} {sp : List Value} (h : Own w 5 1 v l.length (u8s l) sp) : ∃ A c, v = .slice A l.length c ∧ Rd w A (u8s l) ∧ l.length ≤ c := by
  obtain ⟨A, c, e, hc, hr⟩ := h.rd
  exact ⟨A, c, e, hr, hc⟩
theorem str_at {wx : World} {A : Option Addr} {c n : Nat} {l : List UInt8} (hl : l.length = n) (h : Rd wx A (u8s l)) : (convert 22 9 (.slice A n c)).run Try.prog wx = .ok (.string ⟨l.toArray⟩) wx :=
  rd_string 22 9 5 Try.underlying22 Try.underlying5 Try.underlying9 hl h
theorem own_rd {w : World} {A : Option Addr} {c n : Nat} {l sp : List Value} (h : Own w 5 1 (.slice A n c) n l sp) : Rd w A l := by
  obtain ⟨A', c', e, _, hr⟩ := h.rd
  have : A = A' ∧ c = c' := by simpa using e
  rw [this.1]; exact hr
theorem new_lay {wz w1 : World} {o : Obj} {v : Value} (hy : Lay (wz.alloc o) w1 (.slice (some ⟨wz.heap.size, 0, none⟩) 0 0) v) : Frm (fun _ => False) wz w1 :=
  ((Frm.refl (fun _ => False) wz).alloc o).trans2 hy.frm (fun q hq hlt => by cases hq; exact absurd hlt (Nat.lt_irrefl _))
theorem riseR_len (old mask : List UInt8) (fill : UInt8) : (riseR old mask fill).length = old.length := gen_len _ _
theorem fallS_len (old want mask : List UInt8) (fill : UInt8) : (fallS old want mask fill).length ≤ old.length := by
  unfold fallS fallR
  split
  · rw [gen_len]; exact Nat.le_refl _
  · exact Nat.zero_le _
theorem fall_lit : fallS [255, 255] [0, 15] [1] 255 = [254, 15] := by decide
theorem fallE_lit : fallE [255, 255] [0, 15] = 0 := by decide
theorem rise_lit : riseR [0, 1] [3] 128 = [3, 129] := by decide

set_option maxRecDepth 100000 in
set_option maxHeartbeats 8000000 in
theorem falls_walk (w : World) (A0 : Option Addr) (n0 c0 : Nat) (old : List UInt8) (hl0 : old.length = n0) (hr0 : Rd w A0 (u8s old)) (hm0 : n0 ≤ 140737488351232)
    (A1 : Option Addr) (n1 c1 : Nat) (want : List UInt8) (hl1 : want.length = n1) (hr1 : Rd w A1 (u8s want)) (hm1 : n1 ≤ 140737488351232)
    (A2 : Option Addr) (n2 c2 : Nat) (mask : List UInt8) (hl2 : mask.length = n2) (hr2 : Rd w A2 (u8s mask)) (hm2 : n2 ≤ 140737488351232) (fill : UInt8) :
    Calls Try.prog 8 #[.slice A0 n0 c0, .slice A1 n1 c1, .slice A2 n2 c2, .int .u8 (fill.toNat : Int)] w fun e w' => e = .returned (.bool true) ∧ Below w.heap.size w w' := by
  have HL0 := Lib.hid hl0
  have HL1 := Lib.hid hl1
  have HL2 := Lib.hid hl2
  clear hl0 hl1 hl2
  have hbl := Below.refl w.heap.size w
  go_enter Try.func8, Try.ntmps8
  go_wp2_with (go_at_call 11; (with_reducible refine (marked_any _ _ _ old _ HL0.out (hr0.below hbl) hm0).mono ?_); rintro e w1 ⟨gx, cgx, sgx, rfl, bgx, kgx, zgx, hB⟩)
  have zgx' : w.heap.size ≤ gx := Nat.le_trans hbl.size zgx
  have hbl' := hbl.trans (hB.mono hbl.size)
  have ygx := bgx.lt
  clear hbl hB zgx
  have hbl := hbl'
  clear hbl'
  go_wp2_with (go_at_call 11; (with_reducible refine (marked_any _ _ _ want _ HL1.out (hr1.below hbl) hm1).mono ?_); rintro e w2 ⟨gy, cgy, sgy, rfl, bgy, kgy, zgy, hB⟩)
  have bgxn := bgx.frm (Frm.of_below (ex := fun _ => False) hB) (fun h => h)
  clear bgx
  have bgx := bgxn
  clear bgxn
  have zgy' : w.heap.size ≤ gy := Nat.le_trans hbl.size zgy
  have hbl' := hbl.trans (hB.mono hbl.size)
  have ygy := bgy.lt
  have xgy := zgy
  clear hbl hB zgy
  have hbl := hbl'
  clear hbl'
  go_wp2_with (go_at_call 11; (with_reducible refine (marked_any _ _ _ mask _ HL2.out (hr2.below hbl) hm2).mono ?_); rintro e w3 ⟨gz, cgz, sgz, rfl, bgz, kgz, zgz, hB⟩)
  have bgxn := bgx.frm (Frm.of_below (ex := fun _ => False) hB) (fun h => h)
  clear bgx
  have bgx := bgxn
  clear bgxn
  have bgyn := bgy.frm (Frm.of_below (ex := fun _ => False) hB) (fun h => h)
  clear bgy
  have bgy := bgyn
  clear bgyn
  have zgz' : w.heap.size ≤ gz := Nat.le_trans hbl.size zgz
  have hbl' := hbl.trans (hB.mono hbl.size)
  have xgz := zgz
  have xsz := hB.size
  clear hbl hB zgz
  have hbl := hbl'
  clear hbl'
  have hgx := bgx.lt
  have hgy := bgy.lt
  have hgz := bgz.lt
  have hne1 : gx ≠ gy := by omega
  have hne2 : gx ≠ gz := by have := hbl.size; omega
  have hne3 : gy ≠ gz := by omega
  go_wp2_with (go_at_call 29; (with_reducible refine (reffall_s _ _ _ _ _ _ _ _ _ old want mask fill _ HL0.out HL1.out HL2.out (hr0.below hbl) (hr1.below hbl) (hr2.below hbl) (by omega) (by omega) (by omega)).mono ?_); rintro e w4 ⟨vF, rfl, sF, oF, fF, hB⟩)
  have tF := oF.lt
  obtain ⟨AF, cF, eF, _, _⟩ := own_str oF
  subst eF
  have bgxn := bgx.frm (Frm.of_below (ex := fun _ => False) hB) (fun h => h)
  clear bgx
  have bgx := bgxn
  clear bgxn
  have bgyn := bgy.frm (Frm.of_below (ex := fun _ => False) hB) (fun h => h)
  clear bgy
  have bgy := bgyn
  clear bgyn
  have bgzn := bgz.frm (Frm.of_below (ex := fun _ => False) hB) (fun h => h)
  clear bgz
  have bgz := bgzn
  clear bgzn
  have hbl' := hbl.trans (hB.mono hbl.size)
  have qw4 : w3.heap.size ≤ w4.heap.size := hB.size
  clear hbl hB
  have hbl := hbl'
  clear hbl'
  go_wp2_with (go_at_call 30; (with_reducible refine (refrise_any _ _ _ _ _ _ old mask fill _ HL0.out HL2.out (hr0.below hbl) (hr2.below hbl) (by omega) (by omega)).mono ?_); rintro e w5 ⟨vR, rfl, sR, oR, fR, hB⟩)
  have tR := oR.lt
  obtain ⟨AR, cR, eR, _, _⟩ := own_str oR
  subst eR
  have bgxn := bgx.frm (Frm.of_below (ex := fun _ => False) hB) (fun h => h)
  clear bgx
  have bgx := bgxn
  clear bgxn
  have bgyn := bgy.frm (Frm.of_below (ex := fun _ => False) hB) (fun h => h)
  clear bgy
  have bgy := bgyn
  clear bgyn
  have bgzn := bgz.frm (Frm.of_below (ex := fun _ => False) hB) (fun h => h)
  clear bgz
  have bgz := bgzn
  clear bgzn
  have oFn := oF.frm (Frm.of_below (ex := fun _ => False) hB) (fun _ _ h => h)
  clear oF
  have oF := oFn
  clear oFn
  have hbl' := hbl.trans (hB.mono hbl.size)
  have qw5 : w4.heap.size ≤ w5.heap.size := hB.size
  clear hbl hB
  have hbl := hbl'
  clear hbl'
  go_wp2_with (go_at_call 31; (with_reducible refine (fall_s _ _ _ _ _ _ _ _ _ old want mask fill _ HL0.out HL1.out HL2.out (Rd.of_blk (sp := u8s [161, 178, 195] ++ sgx) (mks_in bgx)) (Rd.of_blk (sp := u8s [161, 178, 195] ++ sgy) (mks_in bgy)) (Rd.of_blk (sp := u8s [161, 178, 195] ++ sgz) (mks_in bgz)) (by omega) (by omega) (by omega)).mono ?_); rintro e w6 ⟨va, rfl, sa, oa, fa, hB⟩)
  have ta := oa.lt
  obtain ⟨Aa, ca, ea, _, _⟩ := own_str oa
  subst ea
  have bgxn := bgx.frm (Frm.of_below (ex := fun _ => False) hB) (fun h => h)
  clear bgx
  have bgx := bgxn
  clear bgxn
  have bgyn := bgy.frm (Frm.of_below (ex := fun _ => False) hB) (fun h => h)
  clear bgy
  have bgy := bgyn
  clear bgyn
  have bgzn := bgz.frm (Frm.of_below (ex := fun _ => False) hB) (fun h => h)
  clear bgz
  have bgz := bgzn
  clear bgzn
  have oFn := oF.frm (Frm.of_below (ex := fun _ => False) hB) (fun _ _ h => h)
  clear oF
  have oF := oFn
  clear oFn
  have oRn := oR.frm (Frm.of_below (ex := fun _ => False) hB) (fun _ _ h => h)
  clear oR
  have oR := oRn
  clear oRn
  have hbl' := hbl.trans (hB.mono hbl.size)
  have qw6 : w5.heap.size ≤ w6.heap.size := hB.size
  clear hbl hB
  have hbl := hbl'
  clear hbl'
  go_wp2_with (go_at_call 32; (with_reducible refine (rise_any _ _ _ _ _ _ old mask fill _ HL0.out HL2.out (Rd.of_blk (sp := u8s [161, 178, 195] ++ sgx) (mks_in bgx)) (Rd.of_blk (sp := u8s [161, 178, 195] ++ sgz) (mks_in bgz)) (by omega) (by omega)).mono ?_); rintro e w7 ⟨vp, rfl, sp, op, fp, hB⟩)
  have tp := op.lt
  obtain ⟨Ap, cp, ep, _, _⟩ := own_str op
  subst ep
  have bgxn := bgx.frm (Frm.of_below (ex := fun _ => False) hB) (fun h => h)
  clear bgx
  have bgx := bgxn
  clear bgxn
  have bgyn := bgy.frm (Frm.of_below (ex := fun _ => False) hB) (fun h => h)
  clear bgy
  have bgy := bgyn
  clear bgyn
  have bgzn := bgz.frm (Frm.of_below (ex := fun _ => False) hB) (fun h => h)
  clear bgz
  have bgz := bgzn
  clear bgzn
  have oFn := oF.frm (Frm.of_below (ex := fun _ => False) hB) (fun _ _ h => h)
  clear oF
  have oF := oFn
  clear oFn
  have oRn := oR.frm (Frm.of_below (ex := fun _ => False) hB) (fun _ _ h => h)
  clear oR
  have oR := oRn
  clear oRn
  have oan := oa.frm (Frm.of_below (ex := fun _ => False) hB) (fun _ _ h => h)
  clear oa
  have oa := oan
  clear oan
  have hbl' := hbl.trans (hB.mono hbl.size)
  have qw7 : w6.heap.size ≤ w7.heap.size := hB.size
  clear hbl hB
  have hbl := hbl'
  clear hbl'
  go_wp2_with (go_at_call 31; (with_reducible refine (fall_s _ _ _ _ _ _ _ _ _ old want mask fill _ HL0.out HL1.out HL2.out (Rd.of_blk (sp := u8s [161, 178, 195] ++ sgx) (mks_in bgx)) (Rd.of_blk (sp := u8s [161, 178, 195] ++ sgy) (mks_in bgy)) (Rd.of_blk (sp := u8s [161, 178, 195] ++ sgz) (mks_in bgz)) (by omega) (by omega) (by omega)).mono ?_); rintro e w8 ⟨vb, rfl, sb, ob, fb, hB⟩)
  have tb := ob.lt
  obtain ⟨Ab, cb, eb, _, _⟩ := own_str ob
  subst eb
  have bgxn := bgx.frm (Frm.of_below (ex := fun _ => False) hB) (fun h => h)
  clear bgx
  have bgx := bgxn
  clear bgxn
  have bgyn := bgy.frm (Frm.of_below (ex := fun _ => False) hB) (fun h => h)
  clear bgy
  have bgy := bgyn
  clear bgyn
  have bgzn := bgz.frm (Frm.of_below (ex := fun _ => False) hB) (fun h => h)
  clear bgz
  have bgz := bgzn
  clear bgzn
  have oFn := oF.frm (Frm.of_below (ex := fun _ => False) hB) (fun _ _ h => h)
  clear oF
  have oF := oFn
  clear oFn
  have oRn := oR.frm (Frm.of_below (ex := fun _ => False) hB) (fun _ _ h => h)
  clear oR
  have oR := oRn
  clear oRn
  have oan := oa.frm (Frm.of_below (ex := fun _ => False) hB) (fun _ _ h => h)
  clear oa
  have oa := oan
  clear oan
  have opn := op.frm (Frm.of_below (ex := fun _ => False) hB) (fun _ _ h => h)
  clear op
  have op := opn
  clear opn
  have hbl' := hbl.trans (hB.mono hbl.size)
  have qw8 : w7.heap.size ≤ w8.heap.size := hB.size
  clear hbl hB
  have hbl := hbl'
  clear hbl'
  go_wp2_with (go_at_call 32; (with_reducible refine (rise_any _ _ _ _ _ _ old mask fill _ HL0.out HL2.out (Rd.of_blk (sp := u8s [161, 178, 195] ++ sgx) (mks_in bgx)) (Rd.of_blk (sp := u8s [161, 178, 195] ++ sgz) (mks_in bgz)) (by omega) (by omega)).mono ?_); rintro e w9 ⟨vq, rfl, sq, oq, fq, hB⟩)
  have tq := oq.lt
  obtain ⟨Aq, cq, eq, _, _⟩ := own_str oq
  subst eq
  have bgxn := bgx.frm (Frm.of_below (ex := fun _ => False) hB) (fun h => h)
  clear bgx
  have bgx := bgxn
  clear bgxn
  have bgyn := bgy.frm (Frm.of_below (ex := fun _ => False) hB) (fun h => h)
  clear bgy
  have bgy := bgyn
  clear bgyn
  have bgzn := bgz.frm (Frm.of_below (ex := fun _ => False) hB) (fun h => h)
  clear bgz
  have bgz := bgzn
  clear bgzn
  have oFn := oF.frm (Frm.of_below (ex := fun _ => False) hB) (fun _ _ h => h)
  clear oF
  have oF := oFn
  clear oFn
  have oRn := oR.frm (Frm.of_below (ex := fun _ => False) hB) (fun _ _ h => h)
  clear oR
  have oR := oRn
  clear oRn
  have oan := oa.frm (Frm.of_below (ex := fun _ => False) hB) (fun _ _ h => h)
  clear oa
  have oa := oan
  clear oan
  have opn := op.frm (Frm.of_below (ex := fun _ => False) hB) (fun _ _ h => h)
  clear op
  have op := opn
  clear opn
  have obn := ob.frm (Frm.of_below (ex := fun _ => False) hB) (fun _ _ h => h)
  clear ob
  have ob := obn
  clear obn
  have hbl' := hbl.trans (hB.mono hbl.size)
  have qw9 : w8.heap.size ≤ w9.heap.size := hB.size
  clear hbl hB
  have hbl := hbl'
  clear hbl'
  have l0 := ((rd_new w9 5 (u8s [255, 255])).alloc (.cells (u8s [0, 15]).toArray 5)).alloc (.cells (u8s [1]).toArray 5)
  have l1 := (rd_new (w9.alloc (.cells (u8s [255, 255]).toArray 5)) 5 (u8s [0, 15])).alloc (.cells (u8s [1]).toArray 5)
  have l2 := rd_new ((w9.alloc (.cells (u8s [255, 255]).toArray 5)).alloc (.cells (u8s [0, 15]).toArray 5)) 5 (u8s [1])
  have lB : Below w9.heap.size w9 (((w9.alloc (.cells (u8s [255, 255]).toArray 5)).alloc (.cells (u8s [0, 15]).toArray 5)).alloc (.cells (u8s [1]).toArray 5)) := below_al (below_al (below_al (Below.refl _ _) _) _) _
  simp only [u8s, bv, List.map_cons, List.map_nil, World.size_alloc] at l0 l1 l2 lB
  go_wp2_with (go_at_call 31; refine (fall_s _ _ _ 2 2 2 2 1 1 [255, 255] [0, 15] [1] 255 _ rfl rfl rfl l0 l1 l2 (by decide) (by decide) (by decide)).mono ?_; rintro e w10 ⟨vo, rfl, so, oo, fo, hB⟩)
  have to := oo.lt
  obtain ⟨Ao, co, eo, _, _⟩ := own_str oo
  subst eo
  have hB' := lB.trans (hB.mono lB.size)
  have fo' : ∀ k, (Value.slice Ao (fallS [255, 255] [0, 15] [1] 255).length co).ownBlock = some k → w9.heap.size ≤ k := fun k hk => Nat.le_trans lB.size (fo k hk)
  clear hB lB l0 l1 l2 fo
  have fo := fo'
  have hB := hB'
  clear fo' hB'
  have bgxn := bgx.frm (Frm.of_below (ex := fun _ => False) hB) (fun h => h)
  clear bgx
  have bgx := bgxn
  clear bgxn
  have bgyn := bgy.frm (Frm.of_below (ex := fun _ => False) hB) (fun h => h)
  clear bgy
  have bgy := bgyn
  clear bgyn
  have bgzn := bgz.frm (Frm.of_below (ex := fun _ => False) hB) (fun h => h)
  clear bgz
  have bgz := bgzn
  clear bgzn
  have oFn := oF.frm (Frm.of_below (ex := fun _ => False) hB) (fun _ _ h => h)
  clear oF
  have oF := oFn
  clear oFn
  have oRn := oR.frm (Frm.of_below (ex := fun _ => False) hB) (fun _ _ h => h)
  clear oR
  have oR := oRn
  clear oRn
  have oan := oa.frm (Frm.of_below (ex := fun _ => False) hB) (fun _ _ h => h)
  clear oa
  have oa := oan
  clear oan
  have opn := op.frm (Frm.of_below (ex := fun _ => False) hB) (fun _ _ h => h)
  clear op
  have op := opn
  clear opn
  have obn := ob.frm (Frm.of_below (ex := fun _ => False) hB) (fun _ _ h => h)
  clear ob
  have ob := obn
  clear obn
  have oqn := oq.frm (Frm.of_below (ex := fun _ => False) hB) (fun _ _ h => h)
  clear oq
  have oq := oqn
  clear oqn
  have hbl' := hbl.trans (hB.mono hbl.size)
  have qw10 : w9.heap.size ≤ w10.heap.size := hB.size
  clear hbl hB
  have hbl := hbl'
  clear hbl'
  have l0 := (rd_new w10 5 (u8s [0, 1])).alloc (.cells (u8s [3]).toArray 5)
  have l1 := rd_new (w10.alloc (.cells (u8s [0, 1]).toArray 5)) 5 (u8s [3])
  have lB : Below w10.heap.size w10 ((w10.alloc (.cells (u8s [0, 1]).toArray 5)).alloc (.cells (u8s [3]).toArray 5)) := below_al (below_al (Below.refl _ _) _) _
  simp only [u8s, bv, List.map_cons, List.map_nil, World.size_alloc] at l0 l1 lB
  go_wp2_with (go_at_call 32; refine (rise_any _ _ 2 2 1 1 [0, 1] [3] 128 _ rfl rfl l0 l1 (by decide) (by decide)).mono ?_; rintro e w11 ⟨vr, rfl, sr, or, fr, hB⟩)
  have tr := or.lt
  obtain ⟨Ar, cr, er, _, _⟩ := own_str or
  subst er
  have hB' := lB.trans (hB.mono lB.size)
  have fr' : ∀ k, (Value.slice Ar (riseR [0, 1] [3] 128).length cr).ownBlock = some k → w10.heap.size ≤ k := fun k hk => Nat.le_trans lB.size (fr k hk)
  clear hB lB l0 l1 fr
  have fr := fr'
  have hB := hB'
  clear fr' hB'
  have bgxn := bgx.frm (Frm.of_below (ex := fun _ => False) hB) (fun h => h)
  clear bgx
  have bgx := bgxn
  clear bgxn
  have bgyn := bgy.frm (Frm.of_below (ex := fun _ => False) hB) (fun h => h)
  clear bgy
  have bgy := bgyn
  clear bgyn
  have bgzn := bgz.frm (Frm.of_below (ex := fun _ => False) hB) (fun h => h)
  clear bgz
  have bgz := bgzn
  clear bgzn
  have oFn := oF.frm (Frm.of_below (ex := fun _ => False) hB) (fun _ _ h => h)
  clear oF
  have oF := oFn
  clear oFn
  have oRn := oR.frm (Frm.of_below (ex := fun _ => False) hB) (fun _ _ h => h)
  clear oR
  have oR := oRn
  clear oRn
  have oan := oa.frm (Frm.of_below (ex := fun _ => False) hB) (fun _ _ h => h)
  clear oa
  have oa := oan
  clear oan
  have opn := op.frm (Frm.of_below (ex := fun _ => False) hB) (fun _ _ h => h)
  clear op
  have op := opn
  clear opn
  have obn := ob.frm (Frm.of_below (ex := fun _ => False) hB) (fun _ _ h => h)
  clear ob
  have ob := obn
  clear obn
  have oqn := oq.frm (Frm.of_below (ex := fun _ => False) hB) (fun _ _ h => h)
  clear oq
  have oq := oqn
  clear oqn
  have oon := oo.frm (Frm.of_below (ex := fun _ => False) hB) (fun _ _ h => h)
  clear oo
  have oo := oon
  clear oon
  have hbl' := hbl.trans (hB.mono hbl.size)
  have qw11 : w10.heap.size ≤ w11.heap.size := hB.size
  clear hbl hB
  have hbl := hbl'
  clear hbl'
  go_wp2_with (go_at_call 31; (with_reducible refine (fall_s _ _ _ _ _ _ _ _ _ old want mask fill _ HL0.out HL1.out HL2.out (Rd.of_blk (sp := u8s [161, 178, 195] ++ sgx) (mks_in bgx)) (Rd.of_blk (sp := u8s [161, 178, 195] ++ sgy) (mks_in bgy)) (Rd.of_blk (sp := u8s [161, 178, 195] ++ sgz) (mks_in bgz)) (by omega) (by omega) (by omega)).mono ?_); rintro e w12 ⟨vc, rfl, sc, oc, fc, hB⟩)
  have tc := oc.lt
  obtain ⟨Ac, cc, ec, _, _⟩ := own_str oc
  subst ec
  have bgxn := bgx.frm (Frm.of_below (ex := fun _ => False) hB) (fun h => h)
  clear bgx
  have bgx := bgxn
  clear bgxn
  have bgyn := bgy.frm (Frm.of_below (ex := fun _ => False) hB) (fun h => h)
  clear bgy
  have bgy := bgyn
  clear bgyn
  have bgzn := bgz.frm (Frm.of_below (ex := fun _ => False) hB) (fun h => h)
  clear bgz
  have bgz := bgzn
  clear bgzn
  have oFn := oF.frm (Frm.of_below (ex := fun _ => False) hB) (fun _ _ h => h)
  clear oF
  have oF := oFn
  clear oFn
  have oRn := oR.frm (Frm.of_below (ex := fun _ => False) hB) (fun _ _ h => h)
  clear oR
  have oR := oRn
  clear oRn
  have oan := oa.frm (Frm.of_below (ex := fun _ => False) hB) (fun _ _ h => h)
  clear oa
  have oa := oan
  clear oan
  have opn := op.frm (Frm.of_below (ex := fun _ => False) hB) (fun _ _ h => h)
  clear op
  have op := opn
  clear opn
  have obn := ob.frm (Frm.of_below (ex := fun _ => False) hB) (fun _ _ h => h)
  clear ob
  have ob := obn
  clear obn
  have oqn := oq.frm (Frm.of_below (ex := fun _ => False) hB) (fun _ _ h => h)
  clear oq
  have oq := oqn
  clear oqn
  have oon := oo.frm (Frm.of_below (ex := fun _ => False) hB) (fun _ _ h => h)
  clear oo
  have oo := oon
  clear oon
  have orn := or.frm (Frm.of_below (ex := fun _ => False) hB) (fun _ _ h => h)
  clear or
  have or := orn
  clear orn
  have hbl' := hbl.trans (hB.mono hbl.size)
  have qw12 : w11.heap.size ≤ w12.heap.size := hB.size
  clear hbl hB
  have hbl := hbl'
  clear hbl'
  go_wp2_with (go_at_call 32; (with_reducible refine (rise_any _ _ _ _ _ _ old mask fill _ HL0.out HL2.out (Rd.of_blk (sp := u8s [161, 178, 195] ++ sgx) (mks_in bgx)) (Rd.of_blk (sp := u8s [161, 178, 195] ++ sgz) (mks_in bgz)) (by omega) (by omega)).mono ?_); rintro e w13 ⟨vs, rfl, ss, os, fs, hB⟩)
  have ts := os.lt
  obtain ⟨As, cs, es, _, _⟩ := own_str os
  subst es
  have bgxn := bgx.frm (Frm.of_below (ex := fun _ => False) hB) (fun h => h)
  clear bgx
  have bgx := bgxn
  clear bgxn
  have bgyn := bgy.frm (Frm.of_below (ex := fun _ => False) hB) (fun h => h)
  clear bgy
  have bgy := bgyn
  clear bgyn
  have bgzn := bgz.frm (Frm.of_below (ex := fun _ => False) hB) (fun h => h)
  clear bgz
  have bgz := bgzn
  clear bgzn
  have oFn := oF.frm (Frm.of_below (ex := fun _ => False) hB) (fun _ _ h => h)
  clear oF
  have oF := oFn
  clear oFn
  have oRn := oR.frm (Frm.of_below (ex := fun _ => False) hB) (fun _ _ h => h)
  clear oR
  have oR := oRn
  clear oRn
  have oan := oa.frm (Frm.of_below (ex := fun _ => False) hB) (fun _ _ h => h)
  clear oa
  have oa := oan
  clear oan
  have opn := op.frm (Frm.of_below (ex := fun _ => False) hB) (fun _ _ h => h)
  clear op
  have op := opn
  clear opn
  have obn := ob.frm (Frm.of_below (ex := fun _ => False) hB) (fun _ _ h => h)
  clear ob
  have ob := obn
  clear obn
  have oqn := oq.frm (Frm.of_below (ex := fun _ => False) hB) (fun _ _ h => h)
  clear oq
  have oq := oqn
  clear oqn
  have oon := oo.frm (Frm.of_below (ex := fun _ => False) hB) (fun _ _ h => h)
  clear oo
  have oo := oon
  clear oon
  have orn := or.frm (Frm.of_below (ex := fun _ => False) hB) (fun _ _ h => h)
  clear or
  have or := orn
  clear orn
  have ocn := oc.frm (Frm.of_below (ex := fun _ => False) hB) (fun _ _ h => h)
  clear oc
  have oc := ocn
  clear ocn
  have hbl' := hbl.trans (hB.mono hbl.size)
  have qw13 : w12.heap.size ≤ w13.heap.size := hB.size
  clear hbl hB
  have hbl := hbl'
  clear hbl'
  obtain ⟨wq, hwq⟩ : ∃ wq : World, w13 = wq.drewN 0 := ⟨w13, rfl⟩
  subst hwq
  have SF : ∀ m, (convert 22 9 (.slice AF (fallS old want mask fill).length cF)).run Try.prog (wq.drewN m) = .ok (.string ⟨(fallS old want mask fill).toArray⟩) (wq.drewN m) := fun m => str_at rfl (own_rd (oF.drewN m))
  have Sa : ∀ m, (convert 22 9 (.slice Aa (fallS old want mask fill).length ca)).run Try.prog (wq.drewN m) = .ok (.string ⟨(fallS old want mask fill).toArray⟩) (wq.drewN m) := fun m => str_at rfl (own_rd (oa.drewN m))
  have Sb : ∀ m, (convert 22 9 (.slice Ab (fallS old want mask fill).length cb)).run Try.prog (wq.drewN m) = .ok (.string ⟨(fallS old want mask fill).toArray⟩) (wq.drewN m) := fun m => str_at rfl (own_rd (ob.drewN m))
  have Sc : ∀ m, (convert 22 9 (.slice Ac (fallS old want mask fill).length cc)).run Try.prog (wq.drewN m) = .ok (.string ⟨(fallS old want mask fill).toArray⟩) (wq.drewN m) := fun m => str_at rfl (own_rd (oc.drewN m))
  have SR : ∀ m, (convert 22 9 (.slice AR (riseR old mask fill).length cR)).run Try.prog (wq.drewN m) = .ok (.string ⟨(riseR old mask fill).toArray⟩) (wq.drewN m) := fun m => str_at rfl (own_rd (oR.drewN m))
  have Sp : ∀ m, (convert 22 9 (.slice Ap (riseR old mask fill).length cp)).run Try.prog (wq.drewN m) = .ok (.string ⟨(riseR old mask fill).toArray⟩) (wq.drewN m) := fun m => str_at rfl (own_rd (op.drewN m))
  have Sq : ∀ m, (convert 22 9 (.slice Aq (riseR old mask fill).length cq)).run Try.prog (wq.drewN m) = .ok (.string ⟨(riseR old mask fill).toArray⟩) (wq.drewN m) := fun m => str_at rfl (own_rd (oq.drewN m))
  have Ss : ∀ m, (convert 22 9 (.slice As (riseR old mask fill).length cs)).run Try.prog (wq.drewN m) = .ok (.string ⟨(riseR old mask fill).toArray⟩) (wq.drewN m) := fun m => str_at rfl (own_rd (os.drewN m))
  have So : ∀ m, (convert 22 9 (.slice Ao (fallS [255, 255] [0, 15] [1] 255).length co)).run Try.prog (wq.drewN m) = .ok (.string ⟨(fallS [255, 255] [0, 15] [1] 255).toArray⟩) (wq.drewN m) := fun m => str_at rfl (own_rd (oo.drewN m))
  have Sr : ∀ m, (convert 22 9 (.slice Ar (riseR [0, 1] [3] 128).length cr)).run Try.prog (wq.drewN m) = .ok (.string ⟨(riseR [0, 1] [3] 128).toArray⟩) (wq.drewN m) := fun m => str_at rfl (own_rd (or.drewN m))
  have eo : (⟨(fallS [255, 255] [0, 15] [1] 255).toArray⟩ : ByteArray) = ⟨#[254, 15]⟩ := by rw [fall_lit]
  have er : (⟨(riseR [0, 1] [3] 128).toArray⟩ : ByteArray) = ⟨#[3, 129]⟩ := by rw [rise_lit]
  rw [eo] at So
  rw [er] at Sr
  clear eo er
  have K0 : ∀ m, Calls Try.prog 13 #[.slice (some ⟨gx, 0, none⟩) n0 cgx, .slice A0 n0 c0] (wq.drewN m) fun e w' => e = .returned (.bool true) ∧ ∃ q, w' = wq.drewN q := fun m => (kept_true gx n0 cgx c0 A0 old sgx _ HL0.out (bgx.drewN m) kgx ((hr0.below hbl).drewN m) (by omega)).mono (fun e w' h => ⟨h.1, by obtain ⟨q, hq⟩ := h.2; exact ⟨m + q, by rw [hq, World.drewN_drewN]; rfl⟩⟩)
  have K1 : ∀ m, Calls Try.prog 13 #[.slice (some ⟨gy, 0, none⟩) n1 cgy, .slice A1 n1 c1] (wq.drewN m) fun e w' => e = .returned (.bool true) ∧ ∃ q, w' = wq.drewN q := fun m => (kept_true gy n1 cgy c1 A1 want sgy _ HL1.out (bgy.drewN m) kgy ((hr1.below hbl).drewN m) (by omega)).mono (fun e w' h => ⟨h.1, by obtain ⟨q, hq⟩ := h.2; exact ⟨m + q, by rw [hq, World.drewN_drewN]; rfl⟩⟩)
  have K2 : ∀ m, Calls Try.prog 13 #[.slice (some ⟨gz, 0, none⟩) n2 cgz, .slice A2 n2 c2] (wq.drewN m) fun e w' => e = .returned (.bool true) ∧ ∃ q, w' = wq.drewN q := fun m => (kept_true gz n2 cgz c2 A2 mask sgz _ HL2.out (bgz.drewN m) kgz ((hr2.below hbl).drewN m) (by omega)).mono (fun e w' h => ⟨h.1, by obtain ⟨q, hq⟩ := h.2; exact ⟨m + q, by rw [hq, World.drewN_drewN]; rfl⟩⟩)
  rw [fallE_lit]
  go_wp2_with (first | (go_at_call 18; (with_reducible refine (no_any _ _).mono ?_); rintro e w' ⟨rfl, rfl⟩) | (go_at_call 13; (first | (with_reducible refine (K0 _).mono ?_) | (with_reducible refine (K1 _).mono ?_) | (with_reducible refine (K2 _).mono ?_)); rintro e w' ⟨rfl, q, rfl⟩))
  obtain ⟨wk, hwk⟩ : ∃ wk : World, wk = wq.drewN q := ⟨_, rfl⟩
  have hblk : Below w.heap.size w wk := by rw [hwk]; exact ⟨hbl.os, hbl.tape, hbl.output, hbl.size, hbl.block⟩
  have hsz : wk.heap.size = (wq.drewN 0).heap.size := by rw [hwk]; rfl
  have OF : Own wk 5 1 (.slice AF (fallS old want mask fill).length cF) (fallS old want mask fill).length (u8s (fallS old want mask fill)) sF := by rw [hwk]; exact oF
  have Oa : Own wk 5 1 (.slice Aa (fallS old want mask fill).length ca) (fallS old want mask fill).length (u8s (fallS old want mask fill)) sa := by rw [hwk]; exact oa
  have Ob : Own wk 5 1 (.slice Ab (fallS old want mask fill).length cb) (fallS old want mask fill).length (u8s (fallS old want mask fill)) sb := by rw [hwk]; exact ob
  have Oc : Own wk 5 1 (.slice Ac (fallS old want mask fill).length cc) (fallS old want mask fill).length (u8s (fallS old want mask fill)) sc := by rw [hwk]; exact oc
  have OR : Own wk 5 1 (.slice AR (riseR old mask fill).length cR) (riseR old mask fill).length (u8s (riseR old mask fill)) sR := by rw [hwk]; exact oR
  have Op : Own wk 5 1 (.slice Ap (riseR old mask fill).length cp) (riseR old mask fill).length (u8s (riseR old mask fill)) sp := by rw [hwk]; exact op
  have Oq : Own wk 5 1 (.slice Aq (riseR old mask fill).length cq) (riseR old mask fill).length (u8s (riseR old mask fill)) sq := by rw [hwk]; exact oq
  have Os : Own wk 5 1 (.slice As (riseR old mask fill).length cs) (riseR old mask fill).length (u8s (riseR old mask fill)) ss := by rw [hwk]; exact os
  have Oo : Own wk 5 1 (.slice Ao (fallS [255, 255] [0, 15] [1] 255).length co) (fallS [255, 255] [0, 15] [1] 255).length (u8s (fallS [255, 255] [0, 15] [1] 255)) so := by rw [hwk]; exact oo
  have Or : Own wk 5 1 (.slice Ar (riseR [0, 1] [3] 128).length cr) (riseR [0, 1] [3] 128).length (u8s (riseR [0, 1] [3] 128)) sr := by rw [hwk]; exact or
  have Bgx : Blk wk gx 5 (u8s old ++ (u8s [161, 178, 195] ++ sgx)) := by have h := mks_in bgx; rw [List.nil_append] at h; rw [hwk]; exact h
  have Bgy : Blk wk gy 5 (u8s want ++ (u8s [161, 178, 195] ++ sgy)) := by have h := mks_in bgy; rw [List.nil_append] at h; rw [hwk]; exact h
  have Bgz : Blk wk gz 5 (u8s mask ++ (u8s [161, 178, 195] ++ sgz)) := by have h := mks_in bgz; rw [List.nil_append] at h; rw [hwk]; exact h
  rw [← hwk]
  clear SF Sa Sb Sc SR Sp Sq Ss So Sr oF oa ob oc oR op oq os oo or bgx bgy bgz hbl K0 K1 K2 hwk
  go_wp2_with fail
  with_reducible refine (changed_any _ gx n0 cgx old (u8s [161, 178, 195] ++ sgx) _ HL0.out (fun _ => rfl) Bgx (by omega)).mono ?_
  rintro e wc0 ⟨rfl, Dgx, hf⟩
  have OFn := OF.frm hf (fun k hk he => by have := fF k hk; omega)
  clear OF
  have OF := OFn
  clear OFn
  have Oan := Oa.frm hf (fun k hk he => by have := fa k hk; omega)
  clear Oa
  have Oa := Oan
  clear Oan
  have Obn := Ob.frm hf (fun k hk he => by have := fb k hk; omega)
  clear Ob
  have Ob := Obn
  clear Obn
  have Ocn := Oc.frm hf (fun k hk he => by have := fc k hk; omega)
  clear Oc
  have Oc := Ocn
  clear Ocn
  have ORn := OR.frm hf (fun k hk he => by have := fR k hk; omega)
  clear OR
  have OR := ORn
  clear ORn
  have Opn := Op.frm hf (fun k hk he => by have := fp k hk; omega)
  clear Op
  have Op := Opn
  clear Opn
  have Oqn := Oq.frm hf (fun k hk he => by have := fq k hk; omega)
  clear Oq
  have Oq := Oqn
  clear Oqn
  have Osn := Os.frm hf (fun k hk he => by have := fs k hk; omega)
  clear Os
  have Os := Osn
  clear Osn
  have Oon := Oo.frm hf (fun k hk he => by have := fo k hk; omega)
  clear Oo
  have Oo := Oon
  clear Oon
  have Orn := Or.frm hf (fun k hk he => by have := fr k hk; omega)
  clear Or
  have Or := Orn
  clear Orn
  have Bgyn := Bgy.frm hf (by omega)
  clear Bgy
  have Bgy := Bgyn
  clear Bgyn
  have Bgzn := Bgz.frm hf (by omega)
  clear Bgz
  have Bgz := Bgzn
  clear Bgzn
  have hblkn := below_frm hblk hblk.size hf (fun k hk => by rw [hk]; exact zgx')
  have hszn := Nat.le_trans (Nat.le_of_eq hsz.symm) hf.size
  clear hblk hsz hf Bgx
  have hblk := hblkn
  have hsz := hszn
  clear hblkn hszn
  go_wp2_with fail
  with_reducible refine (changed_any _ gy n1 cgy want (u8s [161, 178, 195] ++ sgy) _ HL1.out (fun _ => rfl) Bgy (by omega)).mono ?_
  rintro e wc1 ⟨rfl, Dgy, hf⟩
  have OFn := OF.frm hf (fun k hk he => by have := fF k hk; omega)
  clear OF
  have OF := OFn
  clear OFn
  have Oan := Oa.frm hf (fun k hk he => by have := fa k hk; omega)
  clear Oa
  have Oa := Oan
  clear Oan
  have Obn := Ob.frm hf (fun k hk he => by have := fb k hk; omega)
  clear Ob
  have Ob := Obn
  clear Obn
  have Ocn := Oc.frm hf (fun k hk he => by have := fc k hk; omega)
  clear Oc
  have Oc := Ocn
  clear Ocn
  have ORn := OR.frm hf (fun k hk he => by have := fR k hk; omega)
  clear OR
  have OR := ORn
  clear ORn
  have Opn := Op.frm hf (fun k hk he => by have := fp k hk; omega)
  clear Op
  have Op := Opn
  clear Opn
  have Oqn := Oq.frm hf (fun k hk he => by have := fq k hk; omega)
  clear Oq
  have Oq := Oqn
  clear Oqn
  have Osn := Os.frm hf (fun k hk he => by have := fs k hk; omega)
  clear Os
  have Os := Osn
  clear Osn
  have Oon := Oo.frm hf (fun k hk he => by have := fo k hk; omega)
  clear Oo
  have Oo := Oon
  clear Oon
  have Orn := Or.frm hf (fun k hk he => by have := fr k hk; omega)
  clear Or
  have Or := Orn
  clear Orn
  have Dgxn := Dgx.frm hf (by omega)
  clear Dgx
  have Dgx := Dgxn
  clear Dgxn
  have Bgzn := Bgz.frm hf (by omega)
  clear Bgz
  have Bgz := Bgzn
  clear Bgzn
  have hblkn := below_frm hblk hblk.size hf (fun k hk => by rw [hk]; exact zgy')
  have hszn := Nat.le_trans hsz hf.size
  clear hblk hsz hf Bgy
  have hblk := hblkn
  have hsz := hszn
  clear hblkn hszn
  go_wp2_with fail
  with_reducible refine (changed_any _ gz n2 cgz mask (u8s [161, 178, 195] ++ sgz) _ HL2.out (fun _ => rfl) Bgz (by omega)).mono ?_
  rintro e wc2 ⟨rfl, Dgz, hf⟩
  have OFn := OF.frm hf (fun k hk he => by have := fF k hk; omega)
  clear OF
  have OF := OFn
  clear OFn
  have Oan := Oa.frm hf (fun k hk he => by have := fa k hk; omega)
  clear Oa
  have Oa := Oan
  clear Oan
  have Obn := Ob.frm hf (fun k hk he => by have := fb k hk; omega)
  clear Ob
  have Ob := Obn
  clear Obn
  have Ocn := Oc.frm hf (fun k hk he => by have := fc k hk; omega)
  clear Oc
  have Oc := Ocn
  clear Ocn
  have ORn := OR.frm hf (fun k hk he => by have := fR k hk; omega)
  clear OR
  have OR := ORn
  clear ORn
  have Opn := Op.frm hf (fun k hk he => by have := fp k hk; omega)
  clear Op
  have Op := Opn
  clear Opn
  have Oqn := Oq.frm hf (fun k hk he => by have := fq k hk; omega)
  clear Oq
  have Oq := Oqn
  clear Oqn
  have Osn := Os.frm hf (fun k hk he => by have := fs k hk; omega)
  clear Os
  have Os := Osn
  clear Osn
  have Oon := Oo.frm hf (fun k hk he => by have := fo k hk; omega)
  clear Oo
  have Oo := Oon
  clear Oon
  have Orn := Or.frm hf (fun k hk he => by have := fr k hk; omega)
  clear Or
  have Or := Orn
  clear Orn
  have Dgxn := Dgx.frm hf (by omega)
  clear Dgx
  have Dgx := Dgxn
  clear Dgxn
  have Dgyn := Dgy.frm hf (by omega)
  clear Dgy
  have Dgy := Dgyn
  clear Dgyn
  have hblkn := below_frm hblk hblk.size hf (fun k hk => by rw [hk]; exact zgz')
  have hszn := Nat.le_trans hsz hf.size
  clear hblk hsz hf Bgz
  have hblk := hblkn
  have hsz := hszn
  clear hblkn hszn
  have SF : (convert 22 9 (.slice AF (fallS old want mask fill).length cF)).run Try.prog wc2 = .ok (.string ⟨(fallS old want mask fill).toArray⟩) wc2 := str_at rfl (own_rd OF)
  have Sa : (convert 22 9 (.slice Aa (fallS old want mask fill).length ca)).run Try.prog wc2 = .ok (.string ⟨(fallS old want mask fill).toArray⟩) wc2 := str_at rfl (own_rd Oa)
  have Sp : (convert 22 9 (.slice Ap (riseR old mask fill).length cp)).run Try.prog wc2 = .ok (.string ⟨(riseR old mask fill).toArray⟩) wc2 := str_at rfl (own_rd Op)
  have SR : (convert 22 9 (.slice AR (riseR old mask fill).length cR)).run Try.prog wc2 = .ok (.string ⟨(riseR old mask fill).toArray⟩) wc2 := str_at rfl (own_rd OR)
  obtain ⟨rows, hrows⟩ : ∃ rows : List Row, rows = [⟨Aa, (fallS old want mask fill).length, ca⟩, ⟨Ab, (fallS old want mask fill).length, cb⟩, ⟨Ao, (fallS [255, 255] [0, 15] [1] 255).length, co⟩, ⟨Ac, (fallS old want mask fill).length, cc⟩, ⟨Ap, (riseR old mask fill).length, cp⟩, ⟨Aq, (riseR old mask fill).length, cq⟩, ⟨Ar, (riseR [0, 1] [3] 128).length, cr⟩, ⟨As, (riseR old mask fill).length, cs⟩] := ⟨_, rfl⟩
  have hdis : Dis rows := by
    refine dis_idx (zone [w3.heap.size, w4.heap.size, w5.heap.size, w6.heap.size, w7.heap.size, w8.heap.size, w9.heap.size, w10.heap.size, w11.heap.size, w12.heap.size, (wq.drewN 0).heap.size]) ?_ [2, 4, 6, 8, 3, 5, 7, 9] (by decide) (by rw [hrows]; rfl) ?_
    · intro i
      match i with
      | 0 => exact qw4
      | 1 => exact qw5
      | 2 => exact qw6
      | 3 => exact qw7
      | 4 => exact qw8
      | 5 => exact qw9
      | 6 => exact qw10
      | 7 => exact qw11
      | 8 => exact qw12
      | 9 => exact qw13
      | n + 10 => cases n <;> simp [zone]
    · intro i r c hr hc k hk
      rw [hrows] at hr
      match i, hr, hc with
      | 0, hr, hc => cases hr; cases hc; exact ⟨fa k hk, ta k hk⟩
      | 1, hr, hc => cases hr; cases hc; exact ⟨fb k hk, tb k hk⟩
      | 2, hr, hc => cases hr; cases hc; exact ⟨fo k hk, to k hk⟩
      | 3, hr, hc => cases hr; cases hc; exact ⟨fc k hk, tc k hk⟩
      | 4, hr, hc => cases hr; cases hc; exact ⟨fp k hk, tp k hk⟩
      | 5, hr, hc => cases hr; cases hc; exact ⟨fq k hk, tq k hk⟩
      | 6, hr, hc => cases hr; cases hc; exact ⟨fr k hk, tr k hk⟩
      | 7, hr, hc => cases hr; cases hc; exact ⟨fs k hk, ts k hk⟩
      | n + 8, hr, hc => simp at hr
  have hown : ∀ (j : Nat) (r : Row), rows[j]? = some r → (∃ xs sp, Own (wc2.alloc (.cells (rows.map Row.v).toArray 22)) 5 1 r.v r.n xs sp) ∧ r.n ≤ 140737488355000 := by
    intro j r hr
    have hls := fallS_len old want mask fill
    have hlr := riseR_len old mask fill
    have h0 := HL0.out
    rw [hrows] at hr
    match j, hr with
    | 0, hr => cases hr; exact ⟨⟨_, _, Oa.alloc _⟩, by show (_ : List UInt8).length ≤ _; omega⟩
    | 1, hr => cases hr; exact ⟨⟨_, _, Ob.alloc _⟩, by show (_ : List UInt8).length ≤ _; omega⟩
    | 2, hr => cases hr; exact ⟨⟨_, _, Oo.alloc _⟩, by show (fallS [255, 255] [0, 15] [1] 255).length ≤ _; rw [fall_lit]; decide⟩
    | 3, hr => cases hr; exact ⟨⟨_, _, Oc.alloc _⟩, by show (_ : List UInt8).length ≤ _; omega⟩
    | 4, hr => cases hr; exact ⟨⟨_, _, Op.alloc _⟩, by show (_ : List UInt8).length ≤ _; omega⟩
    | 5, hr => cases hr; exact ⟨⟨_, _, Oq.alloc _⟩, by show (_ : List UInt8).length ≤ _; omega⟩
    | 6, hr => cases hr; exact ⟨⟨_, _, Or.alloc _⟩, by show (riseR [0, 1] [3] 128).length ≤ _; decide⟩
    | 7, hr => cases hr; exact ⟨⟨_, _, Os.alloc _⟩, by show (_ : List UInt8).length ≤ _; omega⟩
    | n + 8, hr => simp at hr
  have hof : ∀ k, Of rows k → w5.heap.size ≤ k := by
    rintro k ⟨j, r, hr, hk⟩
    rw [hrows] at hr
    match j, hr with
    | 0, hr => cases hr; have := fa k hk; omega
    | 1, hr => cases hr; have := fb k hk; omega
    | 2, hr => cases hr; have := fo k hk; omega
    | 3, hr => cases hr; have := fc k hk; omega
    | 4, hr => cases hr; have := fp k hk; omega
    | 5, hr => cases hr; have := fq k hk; omega
    | 6, hr => cases hr; have := fr k hk; omega
    | 7, hr => cases hr; have := fs k hk; omega
    | n + 8, hr => simp at hr
  have hbk : Blk (wc2.alloc (.cells (rows.map Row.v).toArray 22)) wc2.heap.size 22 (rows.map Row.v ++ []) := by rw [List.append_nil]; exact Blk.new _ _ _
  have hap := apart_any wc2.heap.size 8 8 rows [] _ (by rw [hrows]; rfl) hbk hdis (by decide) hown
  have hmap : (rows.map Row.v).toArray = #[.slice Aa (fallS old want mask fill).length ca, .slice Ab (fallS old want mask fill).length cb, .slice Ao (fallS [255, 255] [0, 15] [1] 255).length co, .slice Ac (fallS old want mask fill).length cc, .slice Ap (riseR old mask fill).length cp, .slice Aq (riseR old mask fill).length cq, .slice Ar (riseR [0, 1] [3] 128).length cr, .slice As (riseR old mask fill).length cs] := by rw [hrows]; rfl
  rw [hmap] at hap
  have hbase : w.heap.size ≤ w5.heap.size := Nat.le_trans zgx' (by omega)
  clear hown hdis hbk hrows hmap
  go_wp2_with fail
  with_reducible refine hap.mono ?_
  rintro e wz ⟨rfl, hfz⟩
  have hls := fallS_len old want mask fill
  have hng : ∀ k, k < w3.heap.size → ¬ Of rows k := fun k hk h => by have := hof k h; omega
  have hAl := (Frm.refl (fun _ => False) wc2).alloc (.cells #[.slice Aa (fallS old want mask fill).length ca, .slice Ab (fallS old want mask fill).length cb, .slice Ao (fallS [255, 255] [0, 15] [1] 255).length co, .slice Ac (fallS old want mask fill).length cc, .slice Ap (riseR old mask fill).length cp, .slice Aq (riseR old mask fill).length cq, .slice Ar (riseR [0, 1] [3] 128).length cr, .slice As (riseR old mask fill).length cs] 22)
  have hfz' : Frm (Of rows) wc2 wz := (hAl.mono (fun _ _ h => h.elim)).trans2 hfz (fun k h _ => h)
  have hblz : Below w.heap.size w wz := below_frm hblk hblk.size hfz' (fun k h => by have := hof k h; have := hbase; omega)
  have Egx := Dgx.frm hfz' (hng _ hgx)
  have M0 : (old.map chg).length = n0 := by rw [chg_len]; exact HL0.out
  have HM0 := Lib.hid M0
  clear M0
  have Egy := Dgy.frm hfz' (hng _ hgy)
  have M1 : (want.map chg).length = n1 := by rw [chg_len]; exact HL1.out
  have HM1 := Lib.hid M1
  clear M1
  have Egz := Dgz.frm hfz' (hng _ hgz)
  have M2 : (mask.map chg).length = n2 := by rw [chg_len]; exact HL2.out
  have HM2 := Lib.hid M2
  clear M2
  clear hfz hfz' hAl hblk hof hng hap Dgx Dgy Dgz OF Oa Ob Oc OR Op Oq Os Oo Or
  go_wp2_with (first | (at_builtin; refine wpList_app _ rfl (.tmp 212) (.tmp 213) 22 rfl 5 _ 1 1 Try.underlying22 info5 (by rfl) (by decide) rfl (Own.new wz 5 1 0 [] rfl (Nat.zero_le _)) rfl (by rw [u8s_length, HM0.out]; exact (Nat.mul_one _).symm) (Rd.of_blk (Egx.alloc _)) (one_u8s (old.map chg)) (by unfold maxLen; omega) (by omega) ?_; intro u0 wy0 su0 ho0 hy0; simp only [Nat.zero_add, List.nil_append] at ho0; have fy0 := new_lay hy0; obtain ⟨U0, d0, eu0, _, _⟩ := ho0.rd; subst eu0; replace Egx := Egx.frm fy0 (fun h => h); replace Egy := Egy.frm fy0 (fun h => h); replace Egz := Egz.frm fy0 (fun h => h); replace hblz := below_frm hblz hblz.size fy0 (fun _ h => h.elim); clear hy0 fy0) | (at_builtin; refine wpList_app _ rfl (.tmp 215) (.tmp 216) 22 rfl 5 _ 1 1 Try.underlying22 info5 (by rfl) (by decide) rfl (Own.new wy0 5 1 0 [] rfl (Nat.zero_le _)) rfl (by rw [u8s_length, HM1.out]; exact (Nat.mul_one _).symm) (Rd.of_blk (Egy.alloc _)) (one_u8s (want.map chg)) (by unfold maxLen; omega) (by omega) ?_; intro u1 wy1 su1 ho1 hy1; simp only [Nat.zero_add, List.nil_append] at ho1; have fy1 := new_lay hy1; obtain ⟨U1, d1, eu1, _, _⟩ := ho1.rd; subst eu1; replace Egx := Egx.frm fy1 (fun h => h); replace Egy := Egy.frm fy1 (fun h => h); replace Egz := Egz.frm fy1 (fun h => h); replace ho0 := ho0.frm fy1 (fun _ _ h => h); replace hblz := below_frm hblz hblz.size fy1 (fun _ h => h.elim); clear hy1 fy1) | (at_builtin; refine wpList_app _ rfl (.tmp 218) (.tmp 219) 22 rfl 5 _ 1 1 Try.underlying22 info5 (by rfl) (by decide) rfl (Own.new wy1 5 1 0 [] rfl (Nat.zero_le _)) rfl (by rw [u8s_length, HM2.out]; exact (Nat.mul_one _).symm) (Rd.of_blk (Egz.alloc _)) (one_u8s (mask.map chg)) (by unfold maxLen; omega) (by omega) ?_; intro u2 wy2 su2 ho2 hy2; simp only [Nat.zero_add, List.nil_append] at ho2; have fy2 := new_lay hy2; obtain ⟨U2, d2, eu2, _, _⟩ := ho2.rd; subst eu2; replace Egx := Egx.frm fy2 (fun h => h); replace Egy := Egy.frm fy2 (fun h => h); replace Egz := Egz.frm fy2 (fun h => h); replace ho0 := ho0.frm fy2 (fun _ _ h => h); replace ho1 := ho1.frm fy2 (fun _ _ h => h); replace hblz := below_frm hblz hblz.size fy2 (fun _ h => h.elim); clear hy2 fy2))
  with_reducible refine (reffall_s U0 U1 U2 n0 d0 n1 d1 n2 d2 (old.map chg) (want.map chg) (mask.map chg) fill _ HM0.out HM1.out HM2.out (own_rd ho0) (own_rd ho1) (own_rd ho2) (by omega) (by omega) (by omega)).mono ?_
  rintro e wg ⟨vG, rfl, sG, oG, fG, hB⟩
  obtain ⟨AG, cG, eG, _, _⟩ := own_str oG
  subst eG
  replace Egx := Egx.frm (Frm.of_below (ex := fun _ => False) hB) (fun h => h)
  replace Egy := Egy.frm (Frm.of_below (ex := fun _ => False) hB) (fun h => h)
  replace Egz := Egz.frm (Frm.of_below (ex := fun _ => False) hB) (fun h => h)
  replace hblz := hblz.trans (hB.mono hblz.size)
  clear hB ho0 ho1 ho2 fG
  go_wp2_with fail
  with_reducible refine (fall_s _ _ _ n0 cgx n1 cgy n2 cgz (old.map chg) (want.map chg) (mask.map chg) fill _ HM0.out HM1.out HM2.out (Rd.of_blk Egx) (Rd.of_blk Egy) (Rd.of_blk Egz) (by omega) (by omega) (by omega)).mono ?_
  rintro e wh ⟨vH, rfl, sH, oH, fH, hB⟩
  obtain ⟨AH, cH, eH, _, _⟩ := own_str oH
  subst eH
  replace oG := oG.frm (Frm.of_below (ex := fun _ => False) hB) (fun _ _ h => h)
  replace hblz := hblz.trans (hB.mono hblz.size)
  have SG : (convert 22 9 (.slice AG (fallS (old.map chg) (want.map chg) (mask.map chg) fill).length cG)).run Try.prog wh = .ok (.string ⟨(fallS (old.map chg) (want.map chg) (mask.map chg) fill).toArray⟩) wh := str_at rfl (own_rd oG)
  have SH : (convert 22 9 (.slice AH (fallS (old.map chg) (want.map chg) (mask.map chg) fill).length cH)).run Try.prog wh = .ok (.string ⟨(fallS (old.map chg) (want.map chg) (mask.map chg) fill).toArray⟩) wh := str_at rfl (own_rd oH)
  clear hB fH oG oH Egx Egy Egz
  go_wp2_with (go_at_call 18; (with_reducible refine (no_any _ _).mono ?_); rintro e w' ⟨rfl, rfl⟩)
  go_ret
  exact ⟨rfl, hblz⟩
end Go.Proofs.Ytelpdcggpahocaa
