/- The law WordsJoins: its walk. -/
import Derived.Test.YtelpdcggpahocaaJw
import Derived.Test.YtelpdcggpahocaaW4
import Derived.Test.YtelpdcggpahocaaLw1
import Derived.Laws.Concat
namespace Go.Proofs.Ytelpdcggpahocaa
open Go.RowKit
set_option linter.unusedVariables false
set_option linter.unusedSimpArgs false
theorem own_strj {w : World} {v : Value} {l : List UInt8} {sp : List Value} (h : Own w 5 1 v l.length (u8s l) sp) : ∃ A c, v = .slice A l.length c := by
  obtain ⟨A, c, e, hc, hr⟩ := h.rd
  exact ⟨A, c, e⟩
theorem own_rdj {w : World} {A : Option Addr} {c n : Nat} {l sp : List Value} (h : Own w 5 1 (.slice A n c) n l sp) : Rd w A l := by
  obtain ⟨A', c', e, _, hr⟩ := h.rd
  have : A = A' ∧ c = c' := by simpa using e
  rw [this.1]; exact hr
theorem str_atj {wx : World} {A : Option Addr} {c n : Nat} {l : List UInt8} (hl : l.length = n) (h : Rd wx A (u8s l)) : (convert 22 9 (.slice A n c)).run Try.prog wx = .ok (.string ⟨l.toArray⟩) wx :=
  rd_string 22 9 5 Try.underlying22 Try.underlying5 Try.underlying9 hl h
def cat2 (a b : List UInt8) : List UInt8 := a ++ b
def cat3 (a b c : List UInt8) : List UInt8 := a ++ b ++ c
theorem cat3_len (a b c : List UInt8) : (cat3 a b c).length = a.length + b.length + c.length := by simp [cat3, Nat.add_assoc]
theorem add_j (a b c : List UInt8) (h : a ++ b = c) (hl : c.length ≤ 1000000000) (w : World) : (Op.stringOp .add ⟨a.toArray⟩ ⟨b.toArray⟩).run Try.prog w = .ok (.string ⟨c.toArray⟩) w := by
  have hs : ∀ l : List UInt8, (ByteArray.mk l.toArray).size = l.length := fun l => by show l.toArray.size = _; simp
  subst h
  rw [List.length_append] at hl
  rw [run_string_add_sum w _ _ (by rw [hs, hs]; omega), ByteArray.mk_append_mk]
theorem join3 (W : World) (A1 A2 A3 : Option Addr) (n1 n2 n3 c1 c2 c3 : Nat) (a b c : List UInt8) (h1 : a.length = n1) (h2 : b.length = n2) (h3 : c.length = n3)
    (r1 : Rd W A1 (u8s a)) (r2 : Rd W A2 (u8s b)) (r3 : Rd W A3 (u8s c)) (m1 : n1 ≤ 1048576) (m2 : n2 ≤ 1048576) (m3 : n3 ≤ 1048576) :
    Calls Try.prog 12 #[.slice (some ⟨W.heap.size, 0, none⟩) 3 3] (W.alloc (.cells #[.slice A1 n1 c1, .slice A2 n2 c2, .slice A3 n3 c3] 22)) fun e w' =>
      ∃ v sp, e = .returned v ∧ Own w' 5 1 v (cat3 a b c).length (u8s (cat3 a b c)) sp ∧ (∀ k, v.ownBlock = some k → W.heap.size ≤ k) ∧ Below W.heap.size W w' := by
  subst h1 h2 h3
  have hb : Blk (W.alloc (.cells #[.slice A1 a.length c1, .slice A2 b.length c2, .slice A3 c.length c3] 22)) W.heap.size 22 [.slice A1 a.length c1, .slice A2 b.length c2, .slice A3 c.length c3] := Blk.new W _ _
  refine (join_any (fun i => match i with | 0 => A1 | 1 => A2 | _ => A3) (fun i => match i with | 0 => c1 | 1 => c2 | _ => c3) (fun i => match i with | 0 => a | 1 => b | _ => c) _ W.heap.size 3 3 _ (fun _ => rfl) (by decide) ?_ (fun _ => by simp) ?_ ?_).mono ?_
  · intro i hi
    rw [hb.cell]
    match i, hi with
    | 0, _ => rfl
    | 1, _ => rfl
    | 2, _ => rfl
  · intro i hi
    match i, hi with
    | 0, _ => exact r1.alloc _
    | 1, _ => exact r2.alloc _
    | 2, _ => exact r3.alloc _
  · intro i hi
    match i, hi with
    | 0, _ => simp [cat]
    | 1, _ => simp [cat]; omega
    | 2, _ => simp [cat]; omega
    | 3, _ => simp [cat]; omega
  · rintro e w' ⟨v, rfl, sp, ho, hf, hbl⟩
    have e3 : cat (fun i => match i with | 0 => a | 1 => b | _ => c) 3 = cat3 a b c := by simp [cat, cat3]
    rw [e3] at ho
    exact ⟨v, sp, rfl, ho, fun k hk => by have := hf k hk; simp at this; omega, ((Below.refl W.heap.size W).alloc (Nat.le_refl _) _).trans (hbl.mono (by simp))⟩
theorem join1 (W : World) (A1 : Option Addr) (n1 c1 : Nat) (a : List UInt8) (h1 : a.length = n1) (r1 : Rd W A1 (u8s a)) (m1 : n1 ≤ 1048576) :
    Calls Try.prog 12 #[.slice (some ⟨W.heap.size, 0, none⟩) 1 1] (W.alloc (.cells #[.slice A1 n1 c1] 22)) fun e w' =>
      ∃ v sp, e = .returned v ∧ Own w' 5 1 v a.length (u8s a) sp ∧ (∀ k, v.ownBlock = some k → W.heap.size ≤ k) ∧ Below W.heap.size W w' := by
  subst h1
  have hb : Blk (W.alloc (.cells #[.slice A1 a.length c1] 22)) W.heap.size 22 [.slice A1 a.length c1] := Blk.new W _ _
  refine (join_any (fun i => A1) (fun i => c1) (fun i => a) _ W.heap.size 1 1 _ (fun _ => rfl) (by decide) ?_ (fun _ => by simp) ?_ ?_).mono ?_
  · intro i hi
    rw [hb.cell]
    match i, hi with
    | 0, _ => rfl
  · intro i hi
    exact r1.alloc _
  · intro i hi
    match i, hi with
    | 0, _ => simp [cat]
    | 1, _ => simp [cat]; omega
  · rintro e w' ⟨v, rfl, sp, ho, hf, hbl⟩
    have e3 : cat (fun i => a) 1 = a := by simp [cat]
    rw [e3] at ho
    exact ⟨v, sp, rfl, ho, fun k hk => by have := hf k hk; simp at this; omega, ((Below.refl W.heap.size W).alloc (Nat.le_refl _) _).trans (hbl.mono (by simp))⟩
theorem join0 (W : World) :
    Calls Try.prog 12 #[.slice none 0 0] W fun e w' =>
      ∃ v sp, e = .returned v ∧ Own w' 5 1 v 0 (u8s []) sp ∧ (∀ k, v.ownBlock = some k → W.heap.size ≤ k) ∧ Below W.heap.size W w' := by
  refine (join_any (fun i => none) (fun i => 0) (fun i => []) none 0 0 0 W (fun h => absurd h (Nat.lt_irrefl _)) (by decide) (fun i h => absurd h (Nat.not_lt_zero _)) (fun h => absurd h (Nat.lt_irrefl _)) (fun i h => absurd h (Nat.not_lt_zero _)) (fun i h => ?_)).mono ?_
  · have : i = 0 := by omega
    subst this; simp [cat]
  · rintro e w' ⟨v, rfl, sp, ho, hf, hbl⟩
    exact ⟨v, sp, rfl, ho, hf, hbl⟩
theorem join7 (W : World) :
    Calls Try.prog 12 #[.slice (some ⟨W.heap.size + 1, 0, none⟩) 1 1] ((W.alloc (.cells #[.int .u8 7, .int .u8 8] 5)).alloc (.cells #[.slice (some ⟨W.heap.size, 0, none⟩) 2 2] 22)) fun e w' =>
      ∃ v sp, e = .returned v ∧ Own w' 5 1 v 2 (u8s [7, 8]) sp ∧ (∀ k, v.ownBlock = some k → W.heap.size ≤ k) ∧ Below W.heap.size W w' := by
  have l0 : Rd (W.alloc (.cells #[.int .u8 7, .int .u8 8] 5)) (some ⟨W.heap.size, 0, none⟩) (u8s [7, 8]) := rd_new W 5 (u8s [7, 8])
  have h := join1 (W.alloc (.cells #[.int .u8 7, .int .u8 8] 5)) (some ⟨W.heap.size, 0, none⟩) 2 2 [7, 8] rfl l0 (by decide)
  rw [World.size_alloc] at h
  refine h.mono ?_
  rintro e w' ⟨v, sp, rfl, ho, hf, hbl⟩
  have lB : Below W.heap.size W (W.alloc (.cells #[.int .u8 7, .int .u8 8] 5)) := (Below.refl _ W).alloc (Nat.le_refl _) _
  exact ⟨v, sp, rfl, ho, fun k hk => by have := hf k hk; omega, lB.trans (hbl.mono (by omega))⟩
set_option maxRecDepth 100000 in
set_option maxHeartbeats 8000000 in
theorem joins_walk (w : World) (A0 : Option Addr) (n0 c0 : Nat) (xa : List UInt8) (hl0 : xa.length = n0) (hr0 : Rd w A0 (u8s xa)) (hm0 : n0 ≤ 1048576)
    (A1 : Option Addr) (n1 c1 : Nat) (xb : List UInt8) (hl1 : xb.length = n1) (hr1 : Rd w A1 (u8s xb)) (hm1 : n1 ≤ 1048576)
    (A2 : Option Addr) (n2 c2 : Nat) (xc : List UInt8) (hl2 : xc.length = n2) (hr2 : Rd w A2 (u8s xc)) (hm2 : n2 ≤ 1048576) :
    Calls Try.prog 3 #[.slice A0 n0 c0, .slice A1 n1 c1, .slice A2 n2 c2] w fun e w' => e = .returned (.bool true) ∧ Below w.heap.size w w' := by
  have HL0 := Lib.hid hl0
  have HL1 := Lib.hid hl1
  have HL2 := Lib.hid hl2
  clear hl0 hl1 hl2
  have hbl := Below.refl w.heap.size w
  go_enter Try.func3, Try.ntmps3
  go_wp2_with fail
  with_reducible refine (marked_any A0 n0 c0 xa w HL0.out (hr0.below hbl) (by omega)).mono ?_
  rintro e w1 ⟨gx, cgx, sgx, rfl, bgx, kgx, zgx, hB⟩
  replace hbl := hbl.trans (hB.mono hbl.size)
  have tgx := bgx.lt
  have qgx := hB.size
  clear hB
  go_wp2_with fail
  with_reducible refine (marked_any A1 n1 c1 xb w1 HL1.out (hr1.below hbl) (by omega)).mono ?_
  rintro e w2 ⟨gy, cgy, sgy, rfl, bgy, kgy, zgy, hB⟩
  replace bgx := bgx.frm (Frm.of_below (ex := fun _ => False) hB) (fun h => h)
  replace hbl := hbl.trans (hB.mono hbl.size)
  have tgy := bgy.lt
  have qgy := hB.size
  clear hB
  go_wp2_with fail
  with_reducible refine (marked_any A2 n2 c2 xc w2 HL2.out (hr2.below hbl) (by omega)).mono ?_
  rintro e w3 ⟨gz, cgz, sgz, rfl, bgz, kgz, zgz, hB⟩
  replace bgx := bgx.frm (Frm.of_below (ex := fun _ => False) hB) (fun h => h)
  replace bgy := bgy.frm (Frm.of_below (ex := fun _ => False) hB) (fun h => h)
  replace hbl := hbl.trans (hB.mono hbl.size)
  have tgz := bgz.lt
  have qgz := hB.size
  clear hB
  have hne1 : gx ≠ gy := by omega
  have hne2 : gx ≠ gz := by omega
  have hne3 : gy ≠ gz := by omega
  have hzx : w.heap.size ≤ gx := zgx
  have hzy : w.heap.size ≤ gy := by omega
  have hzz : w.heap.size ≤ gz := by omega
  have P0 : (convert 22 9 (.slice A0 n0 c0)).run Try.prog w3 = .ok (.string ⟨xa.toArray⟩) w3 := str_atj HL0.out (hr0.below hbl)
  have P1 : (convert 22 9 (.slice A1 n1 c1)).run Try.prog w3 = .ok (.string ⟨xb.toArray⟩) w3 := str_atj HL1.out (hr1.below hbl)
  have P2 : (convert 22 9 (.slice A2 n2 c2)).run Try.prog w3 = .ok (.string ⟨xc.toArray⟩) w3 := str_atj HL2.out (hr2.below hbl)
  have ha1 := add_j xa xb (cat2 xa xb) rfl (by have := HL0.out; have := HL1.out; simp only [cat2, List.length_append]; omega)
  have ha2 := add_j (cat2 xa xb) xc (cat3 xa xb xc) rfl (by have := HL0.out; have := HL1.out; have := HL2.out; rw [cat3_len]; omega)
  go_wp2_with fail
  clear P0 P1 P2 ha1 ha2
  with_reducible refine (join3 w3 (some ⟨gx, 0, none⟩) (some ⟨gy, 0, none⟩) (some ⟨gz, 0, none⟩) n0 n1 n2 cgx cgy cgz xa xb xc HL0.out HL1.out HL2.out (Rd.of_blk (sp := u8s [161, 178, 195] ++ sgx) (by have := mks_in bgx; rwa [List.nil_append] at this)) (Rd.of_blk (sp := u8s [161, 178, 195] ++ sgy) (by have := mks_in bgy; rwa [List.nil_append] at this)) (Rd.of_blk (sp := u8s [161, 178, 195] ++ sgz) (by have := mks_in bgz; rwa [List.nil_append] at this)) hm0 hm1 hm2).mono ?_
  rintro e w4 ⟨vl, sl, rfl, ol, fl, hB⟩
  have tl := ol.lt
  obtain ⟨Al, cl, el⟩ := own_strj ol
  subst el
  replace bgx := bgx.frm (Frm.of_below (ex := fun _ => False) hB) (fun h => h)
  replace bgy := bgy.frm (Frm.of_below (ex := fun _ => False) hB) (fun h => h)
  replace bgz := bgz.frm (Frm.of_below (ex := fun _ => False) hB) (fun h => h)
  replace hbl := hbl.trans (hB.mono hbl.size)
  have ql : w3.heap.size ≤ w4.heap.size := hB.size
  clear hB
  go_wp2_with fail
  with_reducible refine (join3 w4 (some ⟨gx, 0, none⟩) (some ⟨gy, 0, none⟩) (some ⟨gz, 0, none⟩) n0 n1 n2 cgx cgy cgz xa xb xc HL0.out HL1.out HL2.out (Rd.of_blk (sp := u8s [161, 178, 195] ++ sgx) (by have := mks_in bgx; rwa [List.nil_append] at this)) (Rd.of_blk (sp := u8s [161, 178, 195] ++ sgy) (by have := mks_in bgy; rwa [List.nil_append] at this)) (Rd.of_blk (sp := u8s [161, 178, 195] ++ sgz) (by have := mks_in bgz; rwa [List.nil_append] at this)) hm0 hm1 hm2).mono ?_
  rintro e w5 ⟨vm, sm, rfl, om, fm, hB⟩
  have tm := om.lt
  obtain ⟨Am, cm, em⟩ := own_strj om
  subst em
  replace bgx := bgx.frm (Frm.of_below (ex := fun _ => False) hB) (fun h => h)
  replace bgy := bgy.frm (Frm.of_below (ex := fun _ => False) hB) (fun h => h)
  replace bgz := bgz.frm (Frm.of_below (ex := fun _ => False) hB) (fun h => h)
  replace ol := ol.frm (Frm.of_below (ex := fun _ => False) hB) (fun _ _ h => h)
  replace hbl := hbl.trans (hB.mono hbl.size)
  have qm : w4.heap.size ≤ w5.heap.size := hB.size
  clear hB
  go_wp2_with fail
  with_reducible refine (join7 w5).mono ?_
  rintro e w6 ⟨vo, so, rfl, oo, fo, hB⟩
  have to := oo.lt
  obtain ⟨Ao, co, eo, _, _⟩ := oo.rd
  subst eo
  replace bgx := bgx.frm (Frm.of_below (ex := fun _ => False) hB) (fun h => h)
  replace bgy := bgy.frm (Frm.of_below (ex := fun _ => False) hB) (fun h => h)
  replace bgz := bgz.frm (Frm.of_below (ex := fun _ => False) hB) (fun h => h)
  replace ol := ol.frm (Frm.of_below (ex := fun _ => False) hB) (fun _ _ h => h)
  replace om := om.frm (Frm.of_below (ex := fun _ => False) hB) (fun _ _ h => h)
  replace hbl := hbl.trans (hB.mono hbl.size)
  have qo : w5.heap.size ≤ w6.heap.size := hB.size
  clear hB
  go_wp2_with fail
  with_reducible refine (join3 w6 (some ⟨gx, 0, none⟩) (some ⟨gy, 0, none⟩) (some ⟨gz, 0, none⟩) n0 n1 n2 cgx cgy cgz xa xb xc HL0.out HL1.out HL2.out (Rd.of_blk (sp := u8s [161, 178, 195] ++ sgx) (by have := mks_in bgx; rwa [List.nil_append] at this)) (Rd.of_blk (sp := u8s [161, 178, 195] ++ sgy) (by have := mks_in bgy; rwa [List.nil_append] at this)) (Rd.of_blk (sp := u8s [161, 178, 195] ++ sgz) (by have := mks_in bgz; rwa [List.nil_append] at this)) hm0 hm1 hm2).mono ?_
  rintro e w7 ⟨vn, sn, rfl, on, fn, hB⟩
  have tn := on.lt
  obtain ⟨An, cn, en⟩ := own_strj on
  subst en
  replace bgx := bgx.frm (Frm.of_below (ex := fun _ => False) hB) (fun h => h)
  replace bgy := bgy.frm (Frm.of_below (ex := fun _ => False) hB) (fun h => h)
  replace bgz := bgz.frm (Frm.of_below (ex := fun _ => False) hB) (fun h => h)
  replace ol := ol.frm (Frm.of_below (ex := fun _ => False) hB) (fun _ _ h => h)
  replace om := om.frm (Frm.of_below (ex := fun _ => False) hB) (fun _ _ h => h)
  replace oo := oo.frm (Frm.of_below (ex := fun _ => False) hB) (fun _ _ h => h)
  replace hbl := hbl.trans (hB.mono hbl.size)
  have qn : w6.heap.size ≤ w7.heap.size := hB.size
  clear hB
  go_wp2_with fail
  with_reducible refine (join1 w7 (some ⟨gx, 0, none⟩) n0 cgx xa HL0.out (Rd.of_blk (sp := u8s [161, 178, 195] ++ sgx) (by have := mks_in bgx; rwa [List.nil_append] at this)) hm0).mono ?_
  rintro e w8 ⟨vh, sh, rfl, oh, fh, hB⟩
  have th := oh.lt
  obtain ⟨Ah, ch, eh⟩ := own_strj oh
  subst eh
  replace bgx := bgx.frm (Frm.of_below (ex := fun _ => False) hB) (fun h => h)
  replace bgy := bgy.frm (Frm.of_below (ex := fun _ => False) hB) (fun h => h)
  replace bgz := bgz.frm (Frm.of_below (ex := fun _ => False) hB) (fun h => h)
  replace ol := ol.frm (Frm.of_below (ex := fun _ => False) hB) (fun _ _ h => h)
  replace om := om.frm (Frm.of_below (ex := fun _ => False) hB) (fun _ _ h => h)
  replace oo := oo.frm (Frm.of_below (ex := fun _ => False) hB) (fun _ _ h => h)
  replace on := on.frm (Frm.of_below (ex := fun _ => False) hB) (fun _ _ h => h)
  replace hbl := hbl.trans (hB.mono hbl.size)
  have qh : w7.heap.size ≤ w8.heap.size := hB.size
  clear hB
  go_wp2_with fail
  with_reducible refine (join0 w8).mono ?_
  rintro e w9 ⟨vu, su, rfl, ou, fu, hB⟩
  have tu := ou.lt
  obtain ⟨Au, cu, eu, _, _⟩ := ou.rd
  subst eu
  replace bgx := bgx.frm (Frm.of_below (ex := fun _ => False) hB) (fun h => h)
  replace bgy := bgy.frm (Frm.of_below (ex := fun _ => False) hB) (fun h => h)
  replace bgz := bgz.frm (Frm.of_below (ex := fun _ => False) hB) (fun h => h)
  replace ol := ol.frm (Frm.of_below (ex := fun _ => False) hB) (fun _ _ h => h)
  replace om := om.frm (Frm.of_below (ex := fun _ => False) hB) (fun _ _ h => h)
  replace oo := oo.frm (Frm.of_below (ex := fun _ => False) hB) (fun _ _ h => h)
  replace on := on.frm (Frm.of_below (ex := fun _ => False) hB) (fun _ _ h => h)
  replace oh := oh.frm (Frm.of_below (ex := fun _ => False) hB) (fun _ _ h => h)
  replace hbl := hbl.trans (hB.mono hbl.size)
  have qu : w8.heap.size ≤ w9.heap.size := hB.size
  clear hB
  have Sl : (convert 22 9 (.slice Al (cat3 xa xb xc).length cl)).run Try.prog w9 = .ok (.string ⟨(cat3 xa xb xc).toArray⟩) w9 := str_atj rfl (own_rdj ol)
  have Sm : (convert 22 9 (.slice Am (cat3 xa xb xc).length cm)).run Try.prog w9 = .ok (.string ⟨(cat3 xa xb xc).toArray⟩) w9 := str_atj rfl (own_rdj om)
  have So : (convert 22 9 (.slice Ao 2 co)).run Try.prog w9 = .ok (.string ⟨([7, 8]).toArray⟩) w9 := str_atj rfl (own_rdj oo)
  have Sn : (convert 22 9 (.slice An (cat3 xa xb xc).length cn)).run Try.prog w9 = .ok (.string ⟨(cat3 xa xb xc).toArray⟩) w9 := str_atj rfl (own_rdj on)
  have Sh : (convert 22 9 (.slice Ah (xa).length ch)).run Try.prog w9 = .ok (.string ⟨(xa).toArray⟩) w9 := str_atj rfl (own_rdj oh)
  have S0 : (convert 22 9 (.slice A0 n0 c0)).run Try.prog w9 = .ok (.string ⟨xa.toArray⟩) w9 := str_atj HL0.out (hr0.below hbl)
  go_wp2_with fail
  clear Sl Sm So Sn Sh S0
  with_reducible refine (kept_true gx n0 cgx c0 A0 xa sgx w9 HL0.out bgx kgx (hr0.below hbl) (by omega)).mono ?_
  rintro e w10 ⟨rfl, mw10, hww10⟩
  have fd : Frm (fun _ => False) w9 w10 := by rw [hww10]; exact (Frm.refl _ _).drewN _
  replace bgx := bgx.frm fd (fun h => h)
  replace bgy := bgy.frm fd (fun h => h)
  replace bgz := bgz.frm fd (fun h => h)
  replace ol := ol.frm fd (fun _ _ h => h)
  replace om := om.frm fd (fun _ _ h => h)
  replace oo := oo.frm fd (fun _ _ h => h)
  replace on := on.frm fd (fun _ _ h => h)
  replace oh := oh.frm fd (fun _ _ h => h)
  replace ou := ou.frm fd (fun _ _ h => h)
  replace hbl := below_frm hbl hbl.size fd (fun _ h => h.elim)
  have qw10 : w9.heap.size ≤ w10.heap.size := fd.size
  clear fd hww10
  go_wp2_with fail
  with_reducible refine (kept_true gy n1 cgy c1 A1 xb sgy w10 HL1.out bgy kgy (hr1.below hbl) (by omega)).mono ?_
  rintro e w11 ⟨rfl, mw11, hww11⟩
  have fd : Frm (fun _ => False) w10 w11 := by rw [hww11]; exact (Frm.refl _ _).drewN _
  replace bgx := bgx.frm fd (fun h => h)
  replace bgy := bgy.frm fd (fun h => h)
  replace bgz := bgz.frm fd (fun h => h)
  replace ol := ol.frm fd (fun _ _ h => h)
  replace om := om.frm fd (fun _ _ h => h)
  replace oo := oo.frm fd (fun _ _ h => h)
  replace on := on.frm fd (fun _ _ h => h)
  replace oh := oh.frm fd (fun _ _ h => h)
  replace ou := ou.frm fd (fun _ _ h => h)
  replace hbl := below_frm hbl hbl.size fd (fun _ h => h.elim)
  have qw11 : w10.heap.size ≤ w11.heap.size := fd.size
  clear fd hww11
  go_wp2_with fail
  with_reducible refine (kept_true gz n2 cgz c2 A2 xc sgz w11 HL2.out bgz kgz (hr2.below hbl) (by omega)).mono ?_
  rintro e w12 ⟨rfl, mw12, hww12⟩
  have fd : Frm (fun _ => False) w11 w12 := by rw [hww12]; exact (Frm.refl _ _).drewN _
  replace bgx := bgx.frm fd (fun h => h)
  replace bgy := bgy.frm fd (fun h => h)
  replace bgz := bgz.frm fd (fun h => h)
  replace ol := ol.frm fd (fun _ _ h => h)
  replace om := om.frm fd (fun _ _ h => h)
  replace oo := oo.frm fd (fun _ _ h => h)
  replace on := on.frm fd (fun _ _ h => h)
  replace oh := oh.frm fd (fun _ _ h => h)
  replace ou := ou.frm fd (fun _ _ h => h)
  replace hbl := below_frm hbl hbl.size fd (fun _ h => h.elim)
  have qw12 : w11.heap.size ≤ w12.heap.size := fd.size
  clear fd hww12
  have hbm := mks_in bgx
  rw [List.nil_append] at hbm
  go_wp2_with fail
  with_reducible refine (changed_any _ gx n0 cgx xa (u8s [161, 178, 195] ++ sgx) _ HL0.out (fun _ => rfl) hbm (by omega)).mono ?_
  rintro e w13 ⟨rfl, _, hf⟩
  clear hbm bgx
  replace bgy := bgy.frm hf (by omega)
  replace bgz := bgz.frm hf (by omega)
  replace ol := ol.frm hf (fun k hk he => by have := fl k hk; omega)
  replace om := om.frm hf (fun k hk he => by have := fm k hk; omega)
  replace oo := oo.frm hf (fun k hk he => by have := fo k hk; omega)
  replace on := on.frm hf (fun k hk he => by have := fn k hk; omega)
  replace oh := oh.frm hf (fun k hk he => by have := fh k hk; omega)
  replace ou := ou.frm hf (fun k hk he => by have := fu k hk; omega)
  replace hbl := below_frm hbl hbl.size hf (fun k hk => by rw [hk]; exact hzx)
  have qw13 : w12.heap.size ≤ w13.heap.size := hf.size
  clear hf
  have hbm := mks_in bgy
  rw [List.nil_append] at hbm
  go_wp2_with fail
  with_reducible refine (changed_any _ gy n1 cgy xb (u8s [161, 178, 195] ++ sgy) _ HL1.out (fun _ => rfl) hbm (by omega)).mono ?_
  rintro e w14 ⟨rfl, _, hf⟩
  clear hbm bgy
  replace bgz := bgz.frm hf (by omega)
  replace ol := ol.frm hf (fun k hk he => by have := fl k hk; omega)
  replace om := om.frm hf (fun k hk he => by have := fm k hk; omega)
  replace oo := oo.frm hf (fun k hk he => by have := fo k hk; omega)
  replace on := on.frm hf (fun k hk he => by have := fn k hk; omega)
  replace oh := oh.frm hf (fun k hk he => by have := fh k hk; omega)
  replace ou := ou.frm hf (fun k hk he => by have := fu k hk; omega)
  replace hbl := below_frm hbl hbl.size hf (fun k hk => by rw [hk]; exact hzy)
  have qw14 : w13.heap.size ≤ w14.heap.size := hf.size
  clear hf
  have hbm := mks_in bgz
  rw [List.nil_append] at hbm
  go_wp2_with fail
  with_reducible refine (changed_any _ gz n2 cgz xc (u8s [161, 178, 195] ++ sgz) _ HL2.out (fun _ => rfl) hbm (by omega)).mono ?_
  rintro e w15 ⟨rfl, _, hf⟩
  clear hbm bgz
  replace ol := ol.frm hf (fun k hk he => by have := fl k hk; omega)
  replace om := om.frm hf (fun k hk he => by have := fm k hk; omega)
  replace oo := oo.frm hf (fun k hk he => by have := fo k hk; omega)
  replace on := on.frm hf (fun k hk he => by have := fn k hk; omega)
  replace oh := oh.frm hf (fun k hk he => by have := fh k hk; omega)
  replace ou := ou.frm hf (fun k hk he => by have := fu k hk; omega)
  replace hbl := below_frm hbl hbl.size hf (fun k hk => by rw [hk]; exact hzz)
  have qw15 : w14.heap.size ≤ w15.heap.size := hf.size
  clear hf
  have Sl : (convert 22 9 (.slice Al (cat3 xa xb xc).length cl)).run Try.prog w15 = .ok (.string ⟨(cat3 xa xb xc).toArray⟩) w15 := str_atj rfl (own_rdj ol)
  have Sh : (convert 22 9 (.slice Ah (xa).length ch)).run Try.prog w15 = .ok (.string ⟨(xa).toArray⟩) w15 := str_atj rfl (own_rdj oh)
  have S0 : (convert 22 9 (.slice A0 n0 c0)).run Try.prog w15 = .ok (.string ⟨xa.toArray⟩) w15 := str_atj HL0.out (hr0.below hbl)
  obtain ⟨rows, hrows⟩ : ∃ rows : List Row, rows = [⟨Al, (cat3 xa xb xc).length, cl⟩, ⟨Am, (cat3 xa xb xc).length, cm⟩, ⟨Ao, 2, co⟩, ⟨An, (cat3 xa xb xc).length, cn⟩, ⟨Ah, (xa).length, ch⟩, ⟨Au, 0, cu⟩] := ⟨_, rfl⟩
  have hdis : Dis rows := by
    refine dis_idx (zone [w3.heap.size, w4.heap.size, w5.heap.size, w6.heap.size, w7.heap.size, w8.heap.size, w9.heap.size]) ?_ [0, 1, 2, 3, 4, 5] (by decide) (by rw [hrows]; rfl) ?_
    · intro i
      match i with
      | 0 => exact ql
      | 1 => exact qm
      | 2 => exact qo
      | 3 => exact qn
      | 4 => exact qh
      | 5 => exact qu
      | j + 6 => cases j <;> simp [zone]
    · intro i r c hr hc k hk
      rw [hrows] at hr
      match i, hr, hc with
      | 0, hr, hc => cases hr; cases hc; exact ⟨fl k hk, tl k hk⟩
      | 1, hr, hc => cases hr; cases hc; exact ⟨fm k hk, tm k hk⟩
      | 2, hr, hc => cases hr; cases hc; exact ⟨fo k hk, to k hk⟩
      | 3, hr, hc => cases hr; cases hc; exact ⟨fn k hk, tn k hk⟩
      | 4, hr, hc => cases hr; cases hc; exact ⟨fh k hk, th k hk⟩
      | 5, hr, hc => cases hr; cases hc; exact ⟨fu k hk, tu k hk⟩
      | j + 6, hr, hc => simp at hr
  have hown : ∀ (j : Nat) (r : Row), rows[j]? = some r → (∃ xs sp, Own (w15.alloc (.cells (rows.map Row.v).toArray 22)) 5 1 r.v r.n xs sp) ∧ r.n ≤ 140737488355000 := by
    intro j r hr
    have h0 := HL0.out; have h1 := HL1.out; have h2 := HL2.out
    have h3 := cat3_len xa xb xc
    rw [hrows] at hr
    match j, hr with
    | 0, hr => cases hr; exact ⟨⟨_, _, ol.alloc _⟩, by show (cat3 xa xb xc).length ≤ _; omega⟩
    | 1, hr => cases hr; exact ⟨⟨_, _, om.alloc _⟩, by show (cat3 xa xb xc).length ≤ _; omega⟩
    | 2, hr => cases hr; exact ⟨⟨_, _, oo.alloc _⟩, by show 2 ≤ _; omega⟩
    | 3, hr => cases hr; exact ⟨⟨_, _, on.alloc _⟩, by show (cat3 xa xb xc).length ≤ _; omega⟩
    | 4, hr => cases hr; exact ⟨⟨_, _, oh.alloc _⟩, by show xa.length ≤ _; omega⟩
    | 5, hr => cases hr; exact ⟨⟨_, _, ou.alloc _⟩, by show 0 ≤ _; omega⟩
    | j + 6, hr => simp at hr
  have hof : ∀ k, Of rows k → w3.heap.size ≤ k := by
    rintro k ⟨j, r, hr, hk⟩
    rw [hrows] at hr
    match j, hr with
    | 0, hr => cases hr; have := fl k hk; omega
    | 1, hr => cases hr; have := fm k hk; omega
    | 2, hr => cases hr; have := fo k hk; omega
    | 3, hr => cases hr; have := fn k hk; omega
    | 4, hr => cases hr; have := fh k hk; omega
    | 5, hr => cases hr; have := fu k hk; omega
    | j + 6, hr => simp at hr
  have hbk : Blk (w15.alloc (.cells (rows.map Row.v).toArray 22)) w15.heap.size 22 (rows.map Row.v ++ []) := by rw [List.append_nil]; exact Blk.new _ _ _
  have hap := apart_any w15.heap.size 6 6 rows [] _ (by rw [hrows]; rfl) hbk hdis (by decide) hown
  have hmap : (rows.map Row.v).toArray = #[.slice Al (cat3 xa xb xc).length cl, .slice Am (cat3 xa xb xc).length cm, .slice Ao 2 co, .slice An (cat3 xa xb xc).length cn, .slice Ah (xa).length ch, .slice Au 0 cu] := by rw [hrows]; rfl
  rw [hmap] at hap
  have hbase : w.heap.size ≤ w3.heap.size := by omega
  clear hown hdis hbk hrows hmap
  go_wp2_with fail
  with_reducible refine hap.mono ?_
  rintro e wz ⟨rfl, hfz⟩
  have hAl := (Frm.refl (fun _ => False) w15).alloc (.cells #[.slice Al (cat3 xa xb xc).length cl, .slice Am (cat3 xa xb xc).length cm, .slice Ao 2 co, .slice An (cat3 xa xb xc).length cn, .slice Ah (xa).length ch, .slice Au 0 cu] 22)
  have hfz' : Frm (Of rows) w15 wz := (hAl.mono (fun _ _ h => h.elim)).trans2 hfz (fun k h _ => h)
  have hblz : Below w.heap.size w wz := below_frm hbl hbl.size hfz' (fun k h => by have := hof k h; have := hbase; omega)
  clear hfz hfz' hAl hbl hof hap ol om oo on oh ou
  go_wp2
  go_ret
  exact ⟨rfl, hblz⟩
end Go.Proofs.Ytelpdcggpahocaa
