/- The law WordsDigits: its walk. -/
import Derived.Test.YtelpdcggpahocaaDx
import Derived.Test.YtelpdcggpahocaaW4
import Derived.Test.YtelpdcggpahocaaLw1
namespace Go.Proofs.Ytelpdcggpahocaa
open Go.RowKit
set_option linter.unusedVariables false
set_option linter.unusedSimpArgs false
theorem own_strd {w : World} {v : Value} {l : List UInt8} {sp : List Value} (h : Own w 5 1 v l.length (u8s l) sp) : ∃ A c, v = .slice A l.length c := by
  obtain ⟨A, c, e, hc, hr⟩ := h.rd
  exact ⟨A, c, e⟩
theorem own_rdd {w : World} {A : Option Addr} {c n : Nat} {l sp : List Value} (h : Own w 5 1 (.slice A n c) n l sp) : Rd w A l := by
  obtain ⟨A', c', e, _, hr⟩ := h.rd
  have : A = A' ∧ c = c' := by simpa using e
  rw [this.1]; exact hr
theorem str_atd {wx : World} {A : Option Addr} {c n : Nat} {l : List UInt8} (hl : l.length = n) (h : Rd wx A (u8s l)) : (convert 22 9 (.slice A n c)).run Try.prog wx = .ok (.string ⟨l.toArray⟩) wx :=
  rd_string 22 9 5 Try.underlying22 Try.underlying5 Try.underlying9 hl h
theorem new_layd {wz w1 : World} {o : Obj} {v : Value} (hy : Lay (wz.alloc o) w1 (.slice (some ⟨wz.heap.size, 0, none⟩) 0 0) v) : Frm (fun _ => False) wz w1 :=
  ((Frm.refl (fun _ => False) wz).alloc o).trans2 hy.frm (fun q hq hlt => by cases hq; exact absurd hlt (Nat.lt_irrefl _))
theorem lit_un : unR [48, 48, 97, 98] = [0, 171] := by decide
theorem lit_ok : dgOk [48, 48, 97, 98] = true := by decide
theorem unE_ok {s : List UInt8} (h : dgOk s = true) : unE s = 0 := by unfold unE; rw [if_pos h]
theorem unE_bad {s : List UInt8} (h : ¬ dgOk s = true) : unE s = 12 := by unfold unE; rw [if_neg h]
set_option maxRecDepth 100000 in
set_option maxHeartbeats 8000000 in
theorem digits_walk (w : World) (A0 : Option Addr) (n c0 : Nat) (l : List UInt8) (hl : l.length = n) (hr0 : Rd w A0 (u8s l)) (hm : n ≤ 140737488351232) (s : List UInt8) (hs : s.length ≤ 140737488351232) :
    Calls Try.prog 6 #[.slice A0 n c0, .string ⟨s.toArray⟩] w fun e w' => e = .returned (.bool true) ∧ Below w.heap.size w w' := by
  have HL := Lib.hid hl
  clear hl
  go_enter Try.func6, Try.ntmps6
  go_wp2_with fail
  with_reducible refine (marked_any A0 n c0 l w HL.out hr0 hm).mono ?_
  rintro e w1 ⟨g, cp, sp, rfl, hb, hcp, hg, hbl⟩
  have hgl := hb.lt
  have hrc : Rd w1 (some ⟨g, 0, none⟩) (u8s l) := Rd.of_blk (sp := u8s [161, 178, 195] ++ sp) (by have := mks_in hb; rwa [List.nil_append] at this)
  go_wp2_with fail
  with_reducible refine (hex_any _ n cp l w1 HL.out hrc hm).mono ?_
  rintro e w2 ⟨rfl, hB⟩
  replace hb := hb.frm (Frm.of_below (ex := fun _ => False) hB) (fun h => h)
  replace hbl := hbl.trans (hB.mono hbl.size)
  have q1 := hB.size
  clear hB hrc
  go_wp2_with fail
  with_reducible refine (refhex_any A0 n c0 l w2 HL.out (hr0.below hbl) hm).mono ?_
  rintro e w3 ⟨rfl, m3, hw3⟩
  replace hb : Blk w3 g 5 (u8s (l ++ [161, 178, 195]) ++ sp) := by rw [hw3]; exact hb
  replace hbl : Below w.heap.size w w3 := by rw [hw3]; exact ⟨hbl.os, hbl.tape, hbl.output, hbl.size, hbl.block⟩
  have q2 : w2.heap.size ≤ w3.heap.size := by rw [hw3]; exact Nat.le_refl _
  clear hw3
  go_wp2_with fail
  with_reducible refine (kept_true g n cp c0 A0 l sp w3 HL.out hb hcp (hr0.below hbl) hm).mono ?_
  rintro e w4 ⟨rfl, m4, hw4⟩
  replace hb : Blk w4 g 5 (u8s (l ++ [161, 178, 195]) ++ sp) := by rw [hw4]; exact hb
  replace hbl : Below w.heap.size w w4 := by rw [hw4]; exact ⟨hbl.os, hbl.tape, hbl.output, hbl.size, hbl.block⟩
  have q3 : w3.heap.size ≤ w4.heap.size := by rw [hw4]; exact Nat.le_refl _
  clear hw4
  go_wp2_with fail
  with_reducible refine (refunhex_any s w4 (by omega)).mono ?_
  rintro e w5 ⟨vF, rfl, sF, oF, fF, hB⟩
  have tF := oF.lt
  obtain ⟨AF, cF, eF⟩ := own_strd oF
  subst eF
  replace hb := hb.frm (Frm.of_below (ex := fun _ => False) hB) (fun h => h)
  replace hbl := hbl.trans (hB.mono hbl.size)
  have q4 := hB.size
  clear hB
  go_wp2_with fail
  with_reducible refine (unhex_any s w5 (by omega)).mono ?_
  rintro e w6 ⟨va, rfl, sa, oa, fa, hB⟩
  have ta := oa.lt
  obtain ⟨Aa, ca, ea⟩ := own_strd oa
  subst ea
  replace hb := hb.frm (Frm.of_below (ex := fun _ => False) hB) (fun h => h)
  replace oF := oF.frm (Frm.of_below (ex := fun _ => False) hB) (fun _ _ h => h)
  replace hbl := hbl.trans (hB.mono hbl.size)
  have q5 := hB.size
  clear hB
  go_wp2_with fail
  with_reducible refine (unhex_any s w6 (by omega)).mono ?_
  rintro e w7 ⟨vm, rfl, sm, om, fm, hB⟩
  have tm := om.lt
  obtain ⟨Am, cm, em⟩ := own_strd om
  subst em
  replace hb := hb.frm (Frm.of_below (ex := fun _ => False) hB) (fun h => h)
  replace oF := oF.frm (Frm.of_below (ex := fun _ => False) hB) (fun _ _ h => h)
  replace oa := oa.frm (Frm.of_below (ex := fun _ => False) hB) (fun _ _ h => h)
  replace hbl := hbl.trans (hB.mono hbl.size)
  have q6 := hB.size
  clear hB
  go_wp2_with fail
  with_reducible refine (unhex_any [48, 48, 97, 98] w7 (by decide)).mono ?_
  rintro e w8 ⟨vo, rfl, so, oo, fo, hB⟩
  have to := oo.lt
  obtain ⟨Ao, co, eo⟩ := own_strd oo
  subst eo
  replace hb := hb.frm (Frm.of_below (ex := fun _ => False) hB) (fun h => h)
  replace oF := oF.frm (Frm.of_below (ex := fun _ => False) hB) (fun _ _ h => h)
  replace oa := oa.frm (Frm.of_below (ex := fun _ => False) hB) (fun _ _ h => h)
  replace om := om.frm (Frm.of_below (ex := fun _ => False) hB) (fun _ _ h => h)
  replace hbl := hbl.trans (hB.mono hbl.size)
  have q7 := hB.size
  clear hB
  go_wp2_with fail
  with_reducible refine (unhex_any s w8 (by omega)).mono ?_
  rintro e w9 ⟨vn, rfl, sn, on, fn, hB⟩
  have tn := on.lt
  obtain ⟨An, cn, en⟩ := own_strd on
  subst en
  replace hb := hb.frm (Frm.of_below (ex := fun _ => False) hB) (fun h => h)
  replace oF := oF.frm (Frm.of_below (ex := fun _ => False) hB) (fun _ _ h => h)
  replace oa := oa.frm (Frm.of_below (ex := fun _ => False) hB) (fun _ _ h => h)
  replace om := om.frm (Frm.of_below (ex := fun _ => False) hB) (fun _ _ h => h)
  replace oo := oo.frm (Frm.of_below (ex := fun _ => False) hB) (fun _ _ h => h)
  replace hbl := hbl.trans (hB.mono hbl.size)
  have q8 := hB.size
  clear hB
  have SF : (convert 22 9 (.slice AF (unR s).length cF)).run Try.prog w9 = .ok (.string ⟨(unR s).toArray⟩) w9 := str_atd rfl (own_rdd oF)
  have Sa : (convert 22 9 (.slice Aa (unR s).length ca)).run Try.prog w9 = .ok (.string ⟨(unR s).toArray⟩) w9 := str_atd rfl (own_rdd oa)
  have Sm : (convert 22 9 (.slice Am (unR s).length cm)).run Try.prog w9 = .ok (.string ⟨(unR s).toArray⟩) w9 := str_atd rfl (own_rdd om)
  have So : (convert 22 9 (.slice Ao (unR [48, 48, 97, 98]).length co)).run Try.prog w9 = .ok (.string ⟨(unR [48, 48, 97, 98]).toArray⟩) w9 := str_atd rfl (own_rdd oo)
  have Sn : (convert 22 9 (.slice An (unR s).length cn)).run Try.prog w9 = .ok (.string ⟨(unR s).toArray⟩) w9 := str_atd rfl (own_rdd on)
  have eo : (⟨(unR [48, 48, 97, 98]).toArray⟩ : ByteArray) = ⟨#[0, 171]⟩ := by rw [lit_un]
  rw [eo] at So
  rw [unE_ok lit_ok]
  clear eo
  go_wp2_with (go_at_call 18; (with_reducible refine (no_any _ _).mono ?_); rintro e w' ⟨rfl, rfl⟩)
  have hrc : Rd w9 (some ⟨g, 0, none⟩) (u8s l) := Rd.of_blk (sp := u8s [161, 178, 195] ++ sp) (by have := mks_in hb; rwa [List.nil_append] at this)
  clear SF Sa Sm So Sn
  with_reducible refine (hex_any _ n cp l w9 HL.out hrc hm).mono ?_
  rintro e w10 ⟨rfl, hB⟩
  replace hb := hb.frm (Frm.of_below (ex := fun _ => False) hB) (fun h => h)
  replace oF := oF.frm (Frm.of_below (ex := fun _ => False) hB) (fun _ _ h => h)
  replace oa := oa.frm (Frm.of_below (ex := fun _ => False) hB) (fun _ _ h => h)
  replace om := om.frm (Frm.of_below (ex := fun _ => False) hB) (fun _ _ h => h)
  replace oo := oo.frm (Frm.of_below (ex := fun _ => False) hB) (fun _ _ h => h)
  replace on := on.frm (Frm.of_below (ex := fun _ => False) hB) (fun _ _ h => h)
  replace hbl := hbl.trans (hB.mono hbl.size)
  have q9 := hB.size
  clear hB hrc
  go_wp2_with fail
  with_reducible refine (unhex_any (hexR l) w10 (by rw [hexR_len, HL.out]; omega)).mono ?_
  rintro e w11 ⟨vb, rfl, sb, ob, fb, hB⟩
  have tb := ob.lt
  obtain ⟨Ab, cb, eb⟩ := own_strd ob
  subst eb
  replace hb := hb.frm (Frm.of_below (ex := fun _ => False) hB) (fun h => h)
  replace oF := oF.frm (Frm.of_below (ex := fun _ => False) hB) (fun _ _ h => h)
  replace oa := oa.frm (Frm.of_below (ex := fun _ => False) hB) (fun _ _ h => h)
  replace om := om.frm (Frm.of_below (ex := fun _ => False) hB) (fun _ _ h => h)
  replace oo := oo.frm (Frm.of_below (ex := fun _ => False) hB) (fun _ _ h => h)
  replace on := on.frm (Frm.of_below (ex := fun _ => False) hB) (fun _ _ h => h)
  replace hbl := hbl.trans (hB.mono hbl.size)
  have q10 := hB.size
  clear hB
  rw [unE_ok (un_hex l).1]
  rw [(un_hex l).2] at ob fb tb ⊢
  rw [HL.out] at ob fb tb ⊢
  have hr0b := hr0.below hbl
  have Sb : (convert 22 9 (.slice Ab n cb)).run Try.prog w11 = .ok (.string ⟨l.toArray⟩) w11 := str_atd HL.out (own_rdd ob)
  have S0 : (convert 22 9 (.slice A0 n c0)).run Try.prog w11 = .ok (.string ⟨l.toArray⟩) w11 := str_atd HL.out hr0b
  clear hr0b
  by_cases hok : dgOk s = true
  · rw [unE_ok hok]
    have hhu := hex_un s hok
    clear hok
    have hra := own_rdd oa
    have hlu := unR_len s
    have Q10 := q10
    go_wp2_with (first | (go_at_call 18; (with_reducible refine (no_any _ _).mono ?_); rintro e w' ⟨rfl, rfl⟩) | (go_at_call 23; (with_reducible refine (hex_any Aa _ ca (unR s) w11 rfl hra (by omega)).mono ?_); rintro e w12 ⟨rfl, hB⟩; replace hb := hb.frm (Frm.of_below (ex := fun _ => False) hB) (fun h => h); replace oF := oF.frm (Frm.of_below (ex := fun _ => False) hB) (fun _ _ h => h); replace oa := oa.frm (Frm.of_below (ex := fun _ => False) hB) (fun _ _ h => h); replace om := om.frm (Frm.of_below (ex := fun _ => False) hB) (fun _ _ h => h); replace oo := oo.frm (Frm.of_below (ex := fun _ => False) hB) (fun _ _ h => h); replace on := on.frm (Frm.of_below (ex := fun _ => False) hB) (fun _ _ h => h); replace ob := ob.frm (Frm.of_below (ex := fun _ => False) hB) (fun _ _ h => h); replace hbl := hbl.trans (hB.mono hbl.size); have q11 := hB.size; clear hB hra))
    have hbm := mks_in hb
    rw [List.nil_append] at hbm
    have hsz : w4.heap.size ≤ w12.heap.size := by omega
    have hg4 : g < w4.heap.size := by omega
    clear hb
    with_reducible refine (changed_any _ g n cp l (u8s [161, 178, 195] ++ sp) _ HL.out (fun _ => rfl) hbm (by omega)).mono ?_
    rintro e w13 ⟨rfl, hd, hf⟩
    replace oa := oa.frm hf (fun k hk he => by have := fa k hk; omega)
    replace om := om.frm hf (fun k hk he => by have := fm k hk; omega)
    replace oo := oo.frm hf (fun k hk he => by have := fo k hk; omega)
    replace on := on.frm hf (fun k hk he => by have := fn k hk; omega)
    replace ob := ob.frm hf (fun k hk he => by have := fb k hk; omega)
    replace hbl := below_frm hbl hbl.size hf (fun k hk => by rw [hk]; exact hg)
    have hsz3 := hf.size
    clear hf hbm oF S0 Sb
    have M0 : (l.map chg).length = n := by rw [List.length_map]; exact HL.out
    have HM := Lib.hid M0
    clear M0
    have hrd : Rd w13 (some ⟨g, 0, none⟩) (u8s (l.map chg)) := Rd.of_blk hd
    go_wp2_with fail
    with_reducible refine (hex_any _ n cp (l.map chg) w13 HM.out hrd hm).mono ?_
    rintro e w14 ⟨rfl, hB⟩
    have hB2 : Frm (fun _ => False) w13 w14 := Frm.of_below hB
    replace hd := hd.frm hB2 (fun h => h)
    replace oa := oa.frm hB2 (fun _ _ h => h)
    replace om := om.frm hB2 (fun _ _ h => h)
    replace oo := oo.frm hB2 (fun _ _ h => h)
    replace on := on.frm hB2 (fun _ _ h => h)
    replace ob := ob.frm hB2 (fun _ _ h => h)
    replace hbl := below_frm hbl hbl.size hB2 (fun _ h => h.elim)
    have hsz4 := hB.size
    clear hB hB2 hrd
    have hrd : Rd (w14.alloc (.cells #[] 5)) (some ⟨g, 0, none⟩) (u8s (l.map chg)) := Rd.of_blk (hd.alloc _)
    go_wp2_with (at_builtin; refine wpList_app _ rfl (.tmp 132) (.tmp 133) 22 rfl 5 _ 1 1 Try.underlying22 info5 rfl (by decide) rfl (Own.new w14 5 1 0 [] rfl (Nat.zero_le _)) rfl (by rw [u8s_length, HM.out]; exact (Nat.mul_one _).symm) hrd (one_u8s (l.map chg)) (by unfold maxLen; omega) (by omega) ?_; intro v1 w15 sp1 ho1 hy1; simp only [Nat.zero_add, List.nil_append] at ho1; have fy := new_layd hy1; obtain ⟨U, d1, eu, _, hrU⟩ := ho1.rd; subst eu)
    replace hd := hd.frm fy (fun h => h)
    replace oa := oa.frm fy (fun _ _ h => h)
    replace om := om.frm fy (fun _ _ h => h)
    replace oo := oo.frm fy (fun _ _ h => h)
    replace on := on.frm fy (fun _ _ h => h)
    replace ob := ob.frm fy (fun _ _ h => h)
    replace hbl := below_frm hbl hbl.size fy (fun _ h => h.elim)
    have hsz5 := fy.size
    clear hy1 fy hrd ho1
    with_reducible refine (refhex_any U n d1 (l.map chg) w15 HM.out hrU hm).mono ?_
    rintro e w16 ⟨rfl, m16, hw16⟩
    have fd : Frm (fun _ => False) w15 w16 := by rw [hw16]; exact (Frm.refl _ _).drewN _
    replace hd := hd.frm fd (fun h => h)
    replace oa := oa.frm fd (fun _ _ h => h)
    replace om := om.frm fd (fun _ _ h => h)
    replace oo := oo.frm fd (fun _ _ h => h)
    replace on := on.frm fd (fun _ _ h => h)
    replace ob := ob.frm fd (fun _ _ h => h)
    replace hbl := below_frm hbl hbl.size fd (fun _ h => h.elim)
    have hsz6 := fd.size
    clear fd hw16 hrU
    obtain ⟨rows, hrows⟩ : ∃ rows : List Row, rows = [⟨Aa, (unR s).length, ca⟩, ⟨Am, (unR s).length, cm⟩, ⟨Ao, (unR [48, 48, 97, 98]).length, co⟩, ⟨An, (unR s).length, cn⟩, ⟨Ab, n, cb⟩] := ⟨_, rfl⟩
    have hdis : Dis rows := by
      refine dis_idx (zone [w5.heap.size, w6.heap.size, w7.heap.size, w8.heap.size, w10.heap.size, w11.heap.size]) ?_ [0, 1, 2, 3, 4] (by decide) (by rw [hrows]; rfl) ?_
      · intro i
        match i with
        | 0 => exact q5
        | 1 => exact q6
        | 2 => exact q7
        | 3 => exact Nat.le_trans q8 q9
        | 4 => exact q10
        | j + 5 => cases j <;> simp [zone]
      · intro i r c hr hc k hk
        rw [hrows] at hr
        match i, hr, hc with
        | 0, hr, hc => cases hr; cases hc; exact ⟨fa k hk, ta k hk⟩
        | 1, hr, hc => cases hr; cases hc; exact ⟨fm k hk, tm k hk⟩
        | 2, hr, hc => cases hr; cases hc; exact ⟨fo k hk, to k hk⟩
        | 3, hr, hc => cases hr; cases hc; exact ⟨fn k hk, Nat.lt_of_lt_of_le (tn k hk) q9⟩
        | 4, hr, hc => cases hr; cases hc; exact ⟨fb k hk, tb k hk⟩
        | j + 5, hr, hc => simp at hr
    have hown : ∀ (j : Nat) (r : Row), rows[j]? = some r → (∃ xs sp, Own (w16.alloc (.cells (rows.map Row.v).toArray 22)) 5 1 r.v r.n xs sp) ∧ r.n ≤ 140737488355000 := by
      intro j r hr
      have hls := unR_len s
      rw [hrows] at hr
      match j, hr with
      | 0, hr => cases hr; exact ⟨⟨_, _, oa.alloc _⟩, by show (unR s).length ≤ _; omega⟩
      | 1, hr => cases hr; exact ⟨⟨_, _, om.alloc _⟩, by show (unR s).length ≤ _; omega⟩
      | 2, hr => cases hr; exact ⟨⟨_, _, oo.alloc _⟩, by show (unR [48, 48, 97, 98]).length ≤ _; rw [lit_un]; decide⟩
      | 3, hr => cases hr; exact ⟨⟨_, _, on.alloc _⟩, by show (unR s).length ≤ _; omega⟩
      | 4, hr => cases hr; exact ⟨⟨_, _, ob.alloc _⟩, by show n ≤ _; omega⟩
      | j + 5, hr => simp at hr
    have hof : ∀ k, Of rows k → w4.heap.size ≤ k := by
      rintro k ⟨j, r, hr, hk⟩
      rw [hrows] at hr
      match j, hr with
      | 0, hr => cases hr; have := fa k hk; omega
      | 1, hr => cases hr; have := fm k hk; omega
      | 2, hr => cases hr; have := fo k hk; omega
      | 3, hr => cases hr; have := fn k hk; omega
      | 4, hr => cases hr; have := fb k hk; omega
      | j + 5, hr => simp at hr
    have hbk : Blk (w16.alloc (.cells (rows.map Row.v).toArray 22)) w16.heap.size 22 (rows.map Row.v ++ []) := by rw [List.append_nil]; exact Blk.new _ _ _
    have hap := apart_any w16.heap.size 5 5 rows [] _ (by rw [hrows]; rfl) hbk hdis (by decide) hown
    have hmap : (rows.map Row.v).toArray = #[.slice Aa (unR s).length ca, .slice Am (unR s).length cm, .slice Ao (unR [48, 48, 97, 98]).length co, .slice An (unR s).length cn, .slice Ab n cb] := by rw [hrows]; rfl
    rw [hmap] at hap
    have hbase : w.heap.size ≤ w4.heap.size := by omega
    clear hown hdis hbk hrows hmap
    go_wp2_with fail
    with_reducible refine hap.mono ?_
    rintro e wz ⟨rfl, hfz⟩
    have hAl := (Frm.refl (fun _ => False) w16).alloc (.cells #[.slice Aa (unR s).length ca, .slice Am (unR s).length cm, .slice Ao (unR [48, 48, 97, 98]).length co, .slice An (unR s).length cn, .slice Ab n cb] 22)
    have hfz' : Frm (Of rows) w16 wz := (hAl.mono (fun _ _ h => h.elim)).trans2 hfz (fun k h _ => h)
    have hblz : Below w.heap.size w wz := below_frm hbl hbl.size hfz' (fun k h => by have := hof k h; have := hbase; omega)
    clear hfz hfz' hAl hbl hof hap hd oa om oo on ob
    go_wp2
    go_ret
    exact ⟨rfl, hblz⟩
  · rw [unE_bad hok]
    clear hok
    have hbm := mks_in hb
    rw [List.nil_append] at hbm
    have hsz : w4.heap.size ≤ w11.heap.size := by omega
    have hg4 : g < w4.heap.size := by omega
    clear hb
    go_wp2_with (go_at_call 18; (with_reducible refine (no_any _ _).mono ?_); rintro e w' ⟨rfl, rfl⟩)
    with_reducible refine (changed_any _ g n cp l (u8s [161, 178, 195] ++ sp) _ HL.out (fun _ => rfl) hbm (by omega)).mono ?_
    rintro e w13 ⟨rfl, hd, hf⟩
    replace oa := oa.frm hf (fun k hk he => by have := fa k hk; omega)
    replace om := om.frm hf (fun k hk he => by have := fm k hk; omega)
    replace oo := oo.frm hf (fun k hk he => by have := fo k hk; omega)
    replace on := on.frm hf (fun k hk he => by have := fn k hk; omega)
    replace ob := ob.frm hf (fun k hk he => by have := fb k hk; omega)
    replace hbl := below_frm hbl hbl.size hf (fun k hk => by rw [hk]; exact hg)
    have hsz3 := hf.size
    clear hf hbm oF S0 Sb
    have M0 : (l.map chg).length = n := by rw [List.length_map]; exact HL.out
    have HM := Lib.hid M0
    clear M0
    have hrd : Rd w13 (some ⟨g, 0, none⟩) (u8s (l.map chg)) := Rd.of_blk hd
    go_wp2_with fail
    with_reducible refine (hex_any _ n cp (l.map chg) w13 HM.out hrd hm).mono ?_
    rintro e w14 ⟨rfl, hB⟩
    have hB2 : Frm (fun _ => False) w13 w14 := Frm.of_below hB
    replace hd := hd.frm hB2 (fun h => h)
    replace oa := oa.frm hB2 (fun _ _ h => h)
    replace om := om.frm hB2 (fun _ _ h => h)
    replace oo := oo.frm hB2 (fun _ _ h => h)
    replace on := on.frm hB2 (fun _ _ h => h)
    replace ob := ob.frm hB2 (fun _ _ h => h)
    replace hbl := below_frm hbl hbl.size hB2 (fun _ h => h.elim)
    have hsz4 := hB.size
    clear hB hB2 hrd
    have hrd : Rd (w14.alloc (.cells #[] 5)) (some ⟨g, 0, none⟩) (u8s (l.map chg)) := Rd.of_blk (hd.alloc _)
    go_wp2_with (at_builtin; refine wpList_app _ rfl (.tmp 132) (.tmp 133) 22 rfl 5 _ 1 1 Try.underlying22 info5 rfl (by decide) rfl (Own.new w14 5 1 0 [] rfl (Nat.zero_le _)) rfl (by rw [u8s_length, HM.out]; exact (Nat.mul_one _).symm) hrd (one_u8s (l.map chg)) (by unfold maxLen; omega) (by omega) ?_; intro v1 w15 sp1 ho1 hy1; simp only [Nat.zero_add, List.nil_append] at ho1; have fy := new_layd hy1; obtain ⟨U, d1, eu, _, hrU⟩ := ho1.rd; subst eu)
    replace hd := hd.frm fy (fun h => h)
    replace oa := oa.frm fy (fun _ _ h => h)
    replace om := om.frm fy (fun _ _ h => h)
    replace oo := oo.frm fy (fun _ _ h => h)
    replace on := on.frm fy (fun _ _ h => h)
    replace ob := ob.frm fy (fun _ _ h => h)
    replace hbl := below_frm hbl hbl.size fy (fun _ h => h.elim)
    have hsz5 := fy.size
    clear hy1 fy hrd ho1
    with_reducible refine (refhex_any U n d1 (l.map chg) w15 HM.out hrU hm).mono ?_
    rintro e w16 ⟨rfl, m16, hw16⟩
    have fd : Frm (fun _ => False) w15 w16 := by rw [hw16]; exact (Frm.refl _ _).drewN _
    replace hd := hd.frm fd (fun h => h)
    replace oa := oa.frm fd (fun _ _ h => h)
    replace om := om.frm fd (fun _ _ h => h)
    replace oo := oo.frm fd (fun _ _ h => h)
    replace on := on.frm fd (fun _ _ h => h)
    replace ob := ob.frm fd (fun _ _ h => h)
    replace hbl := below_frm hbl hbl.size fd (fun _ h => h.elim)
    have hsz6 := fd.size
    clear fd hw16 hrU
    obtain ⟨rows, hrows⟩ : ∃ rows : List Row, rows = [⟨Aa, (unR s).length, ca⟩, ⟨Am, (unR s).length, cm⟩, ⟨Ao, (unR [48, 48, 97, 98]).length, co⟩, ⟨An, (unR s).length, cn⟩, ⟨Ab, n, cb⟩] := ⟨_, rfl⟩
    have hdis : Dis rows := by
      refine dis_idx (zone [w5.heap.size, w6.heap.size, w7.heap.size, w8.heap.size, w10.heap.size, w11.heap.size]) ?_ [0, 1, 2, 3, 4] (by decide) (by rw [hrows]; rfl) ?_
      · intro i
        match i with
        | 0 => exact q5
        | 1 => exact q6
        | 2 => exact q7
        | 3 => exact Nat.le_trans q8 q9
        | 4 => exact q10
        | j + 5 => cases j <;> simp [zone]
      · intro i r c hr hc k hk
        rw [hrows] at hr
        match i, hr, hc with
        | 0, hr, hc => cases hr; cases hc; exact ⟨fa k hk, ta k hk⟩
        | 1, hr, hc => cases hr; cases hc; exact ⟨fm k hk, tm k hk⟩
        | 2, hr, hc => cases hr; cases hc; exact ⟨fo k hk, to k hk⟩
        | 3, hr, hc => cases hr; cases hc; exact ⟨fn k hk, Nat.lt_of_lt_of_le (tn k hk) q9⟩
        | 4, hr, hc => cases hr; cases hc; exact ⟨fb k hk, tb k hk⟩
        | j + 5, hr, hc => simp at hr
    have hown : ∀ (j : Nat) (r : Row), rows[j]? = some r → (∃ xs sp, Own (w16.alloc (.cells (rows.map Row.v).toArray 22)) 5 1 r.v r.n xs sp) ∧ r.n ≤ 140737488355000 := by
      intro j r hr
      have hls := unR_len s
      rw [hrows] at hr
      match j, hr with
      | 0, hr => cases hr; exact ⟨⟨_, _, oa.alloc _⟩, by show (unR s).length ≤ _; omega⟩
      | 1, hr => cases hr; exact ⟨⟨_, _, om.alloc _⟩, by show (unR s).length ≤ _; omega⟩
      | 2, hr => cases hr; exact ⟨⟨_, _, oo.alloc _⟩, by show (unR [48, 48, 97, 98]).length ≤ _; rw [lit_un]; decide⟩
      | 3, hr => cases hr; exact ⟨⟨_, _, on.alloc _⟩, by show (unR s).length ≤ _; omega⟩
      | 4, hr => cases hr; exact ⟨⟨_, _, ob.alloc _⟩, by show n ≤ _; omega⟩
      | j + 5, hr => simp at hr
    have hof : ∀ k, Of rows k → w4.heap.size ≤ k := by
      rintro k ⟨j, r, hr, hk⟩
      rw [hrows] at hr
      match j, hr with
      | 0, hr => cases hr; have := fa k hk; omega
      | 1, hr => cases hr; have := fm k hk; omega
      | 2, hr => cases hr; have := fo k hk; omega
      | 3, hr => cases hr; have := fn k hk; omega
      | 4, hr => cases hr; have := fb k hk; omega
      | j + 5, hr => simp at hr
    have hbk : Blk (w16.alloc (.cells (rows.map Row.v).toArray 22)) w16.heap.size 22 (rows.map Row.v ++ []) := by rw [List.append_nil]; exact Blk.new _ _ _
    have hap := apart_any w16.heap.size 5 5 rows [] _ (by rw [hrows]; rfl) hbk hdis (by decide) hown
    have hmap : (rows.map Row.v).toArray = #[.slice Aa (unR s).length ca, .slice Am (unR s).length cm, .slice Ao (unR [48, 48, 97, 98]).length co, .slice An (unR s).length cn, .slice Ab n cb] := by rw [hrows]; rfl
    rw [hmap] at hap
    have hbase : w.heap.size ≤ w4.heap.size := by omega
    clear hown hdis hbk hrows hmap
    go_wp2_with fail
    with_reducible refine hap.mono ?_
    rintro e wz ⟨rfl, hfz⟩
    have hAl := (Frm.refl (fun _ => False) w16).alloc (.cells #[.slice Aa (unR s).length ca, .slice Am (unR s).length cm, .slice Ao (unR [48, 48, 97, 98]).length co, .slice An (unR s).length cn, .slice Ab n cb] 22)
    have hfz' : Frm (Of rows) w16 wz := (hAl.mono (fun _ _ h => h.elim)).trans2 hfz (fun k h _ => h)
    have hblz : Below w.heap.size w wz := below_frm hbl hbl.size hfz' (fun k h => by have := hof k h; have := hbase; omega)
    clear hfz hfz' hAl hbl hof hap hd oa om oo on ob
    go_wp2
    go_ret
    exact ⟨rfl, hblz⟩
theorem digits_walk' (w : World) (A0 : Option Addr) (n c0 : Nat) (l : List UInt8) (hl : l.length = n) (hr0 : Rd w A0 (u8s l)) (hm : n ≤ 140737488351232) (s : ByteArray) (hs : s.data.toList.length ≤ 140737488351232) :
    Calls Try.prog 6 #[.slice A0 n c0, .string s] w fun e w' => e = .returned (.bool true) ∧ Below w.heap.size w w' := by
  have h := digits_walk w A0 n c0 l hl hr0 hm s.data.toList hs
  have e : (⟨s.data.toList.toArray⟩ : ByteArray) = s := by cases s; simp
  rw [e] at h
  exact h
end Go.Proofs.Ytelpdcggpahocaa
