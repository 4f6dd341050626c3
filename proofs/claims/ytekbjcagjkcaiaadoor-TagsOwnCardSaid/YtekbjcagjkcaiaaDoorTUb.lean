/- The walk of unmet: lists that have memory of their own, spare room too. -/
import Derived.Test.YtekbjcagjkcaiaaDoorTh
import Derived.Test.YtekbjcagjkcaiaaDoorUa
namespace Go.Proofs.YtekbjcagjkcaiaaDoor
open Go.RowKit
set_option linter.unusedVariables false
set_option linter.unusedSimpArgs false
theorem info22 : (Tryd.prog.info? 22).map (fun i => (i.zero, i.size, i.bytes)) = some (some (.slice none 0 0), 1, 24) := by kernel_rfl
/-- The mark of the list number i at the place k. -/
def tl (i k : Nat) : Int := if k % 2 = 0 then IntKind.u8.wrap (7 * (i : Int)) else Go.bits .xor .u8 (IntKind.u8.wrap (i : Int)) 85
def mkT (i k : Nat) : Value := .int .u8 (tl i k)
def mkG (i k : Nat) : Value := .int .u8 (tl (i + 100) k)
theorem tell_any (i k : Nat) (hi : i ≤ 1000) (hk : k ≤ 9000000000000000000) (w : World) :
    Calls Tryd.prog 40 #[.int .i64 (i : Int), .int .i64 (k : Int)] w fun e w' => e = .returned (.int .u8 (tl i k)) ∧ w' = w := by
  go_enter Tryd.func40, Tryd.ntmps40
  by_cases h : k % 2 = 0
  · have h2 : (k : Int) % 2 = 0 := by omega
    have e : tl i k = IntKind.u8.wrap (7 * (i : Int)) := by unfold tl; rw [if_pos h]
    rw [e]
    go_wp2
    go_ret
    exact ⟨rfl, rfl⟩
  · have h2 : (k : Int) % 2 = 1 := by omega
    have e : tl i k = Go.bits .xor .u8 (IntKind.u8.wrap (i : Int)) 85 := by unfold tl; rw [if_neg h]
    rw [e]
    go_wp2
    go_ret
    exact ⟨rfl, rfl⟩
/-- The blocks of the rows. -/
def Of (rows : List Row) (q : Nat) : Prop := ∃ (j : Nat) (r : Row), rows[j]? = some r ∧ r.v.ownBlock = some q
theorem Inv1.ne {t u : TypeId} {mk : Nat → Nat → Value} {rows : List Row} {w : World} {i k gl : Nat} {cs : List Value} (h : Inv1 t mk rows w i k) (hb : Blk w gl u cs) (hne : u ≠ t) : ¬ Of rows gl := by
  rintro ⟨j, r, hr, ho⟩
  obtain ⟨xs, sp, hown, _⟩ := h j r hr
  rcases hown with ⟨e, _⟩ | ⟨g, cap, e, hb2, _⟩
  · rw [e] at ho; cases ho
  · rw [e] at ho; cases ho; exact hb.other hne hb2
theorem own_other {w : World} {t u : TypeId} {v : Value} {n : Nat} {xs sp : List Value} (h : Owx w t 1 v n xs sp) (hne : t ≠ u) : ∀ q cs, v.ownBlock = some q → ¬ Blk w q u cs := by
  intro q cs hq
  rcases h with ⟨e, _⟩ | ⟨g, cap, e, hb, _⟩
  · rw [e] at hq; cases hq
  · rw [e] at hq; cases hq; exact hb.other hne
theorem Inv1.drew {t : TypeId} {mk : Nat → Nat → Value} {rows : List Row} {w : World} {i k : Nat} (h : Inv1 t mk rows w i k) : Inv1 t mk rows w.drew i k := h
set_option maxRecDepth 100000 in
set_option maxHeartbeats 4000000 in
theorem unmet_any (gl cap m : Nat) (rows : List Row) (spl : List Value) (w : World) (hlen : rows.length = m) (hb : Blk w gl 22 (rows.map Row.v ++ spl)) (hd : Dis rows) (hm : m ≤ 100)
    (ho : ∀ (j : Nat) (r : Row), rows[j]? = some r → (∃ xs sp, Owx w 5 1 r.v r.n xs sp) ∧ r.n ≤ 140737488355000) :
    Calls Tryd.prog 26 #[.slice (some ⟨gl, 0, none⟩) m cap] w fun e w' => e = .returned (.bool true) ∧ Frm (Of rows) w w' := by
  have HM := Lib.hid hlen
  clear hlen
  have hat : ∀ i, i < m → ∃ r, rows[i]? = some r := fun i hi => ⟨rows[i]'(by rw [HM.out]; exact hi), List.getElem?_eq_getElem _⟩
  have hcl : ∀ (wx : World) (i : Nat) (A : Option Addr) (n c : Nat), Blk wx gl 22 (rows.map Row.v ++ spl) → rows[i]? = some ⟨A, n, c⟩ → wx.cell? ⟨gl, i, none⟩ = some (.slice A n c) := by
    intro wx i A n c hbx hr
    have hi : i < (rows.map Row.v).length := by
      rcases Nat.lt_or_ge i rows.length with h1 | h1
      · simpa using h1
      · rw [List.getElem?_eq_none h1] at hr; cases hr
    rw [hbx.cell, List.getElem?_append_left hi, rows_at rows i _ hr]; rfl
  have HAT := Lib.hid hat
  have HCL := Lib.hid hcl
  have HO := Lib.hid ho
  have HD := Lib.hid hd
  have HG := Lib.hid hb.lt
  clear hat hcl ho hd
  have h10 : Inv1 5 mkT rows w 0 0 := fun j r hr => by
    obtain ⟨⟨xs, sp, h⟩, _⟩ := HO.out j r hr
    exact ⟨xs, sp, h, fun q _ hc => by omega⟩
  go_enter Tryd.func26, Tryd.ntmps26
  go_wp2
  go_loopw [3, 4] (fun i _ wr => ∃ k : Nat, k ≤ m ∧ i = .int .i64 k ∧ Inv1 5 mkT rows wr k 0 ∧ Blk wr gl 22 (rows.map Row.v ++ spl) ∧ Frm (Of rows) w wr) (fun i _ _ => m - (intI i))
  case atStart => exact ⟨0, by omega, rfl, h10, hb, Frm.refl _ _⟩
  case round =>
    obtain ⟨i, hi, rfl, hin, hbl, hfr⟩ := hrel
    clear hb h10
    by_cases hlt : i < m
    · obtain ⟨⟨A, n, c⟩, hr⟩ := HAT.out i hlt
      have HR := Lib.hid hr
      have hn := (HO.out i _ hr).2
      simp only at hn
      clear hr
      obtain ⟨wo, hwo⟩ : ∃ wo : World, wo = wr := ⟨_, rfl⟩
      subst hwo
      have hc0 := HCL.out wo i A n c hbl HR.out
      go_wp2
      go_loopw [4] (fun kk wr => ∃ k : Nat, k ≤ n ∧ kk = .int .i64 k ∧ Inv1 5 mkT rows wr i k ∧ Blk wr gl 22 (rows.map Row.v ++ spl) ∧ Frm (Of rows) w wr) (fun kk _ => n - (intI kk))
      case atStart => exact ⟨0, by omega, rfl, hin, hbl, hfr⟩
      case round =>
        obtain ⟨k, hk, rfl, hin2, hbl2, hfr2⟩ := hrel
        clear hin hbl hfr
        have hc1 := HCL.out wr i A n c hbl2 HR.out
        by_cases hlk : k < n
        · obtain ⟨g, hA, _, hz, ⟨u, hcu⟩, hob⟩ := hin2.addr HR.out hlk
          have hA' : A = some ⟨g, 0, none⟩ := hA
          have hst := hin2.drew.store HD.out HR.out hlk hA
          have hng := hin2.ne hbl2 (by decide)
          have hbl3 := Blk.far (w := wr.drew) hbl2 (p := ⟨g, k, none⟩) (fun e => hng ⟨i, _, HR.out, by rw [hob, e]⟩) (mkT i k)
          have hfr3 := hfr2.drew.setCell (p := ⟨g, k, none⟩) (fun _ => ⟨i, _, HR.out, hob⟩) (mkT i k)
          have ht := fun wx => tell_any i k (by omega) (by omega) wx
          unfold mkT at hst hbl3 hfr3
          generalize tl i k = tv at *
          have hli : (i : Int) < (m : Int) := by omega
          have hlki : (k : Int) < (n : Int) := by omega
          subst hA'
          clear hin2 hbl2 hfr2 hA hng hob
          go_upto_region 7 with fail
          refine wp_region_still_tail 9 (by kernel_rfl) (by kernel_rfl) ?_
          simp only [List.take_succ_cons, List.take_zero, List.drop_succ_cons, List.drop_zero]
          repeat still_step
          still_call (ht _)
          repeat still_step
          refine wpStill_nil ?_
          change wpList _ _ _ _ _ wr.drew
          go_wp2
          go_roundw
          case rel => exact ⟨k + 1, by omega, by go_num, hst, hbl3, hfr3⟩
          case measure => simp [intI]; omega
        · obtain rfl : k = n := by omega
          go_wp2
          go_roundw
          case rel => exact ⟨i + 1, by omega, by go_num, hin2.next HR.out, hbl2, hfr2⟩
          case measure => simp [intI]; omega
    · obtain rfl : i = m := by omega
      go_wp2
      have hsm : ∀ (j : Nat) (r : Row), rows[j]? = some r → ∀ q, r.v.ownBlock = some q → q < wr.heap.size := fun j r hr q hq => by
        obtain ⟨xs, sp, h, _⟩ := hin j r hr
        exact h.lt q hq
      have h20 : Inv2 5 mkT mkG rows 90 wr 0 [] := Inv2.start HD.out (by rw [HM.out]; exact hin)
      have HS := Lib.hid hsm
      clear hsm hin
      obtain ⟨wa, hwa⟩ : ∃ wa : World, wa = wr := ⟨_, rfl⟩
      subst hwa
      go_loopw [5, 6, 7, 8] (fun gr ii _ _ wr => ∃ (k : Nat) (gs spg : List Value), k ≤ i ∧ ii = .int .i64 k ∧ Owx wr 22 1 gr k gs spg ∧ Inv2 5 mkT mkG rows 90 wr k gs ∧ Blk wr gl 22 (rows.map Row.v ++ spl) ∧ Frm (Of rows) w wr ∧ Frm (fun _ => True) wa wr ∧ (∀ q, gr.ownBlock = some q → w.heap.size ≤ q)) (fun _ ii _ _ _ => i - (intI ii))
      case atStart => exact ⟨0, [], [], by omega, rfl, .inl ⟨rfl, rfl, rfl, rfl⟩, h20, hbl, hfr, Frm.refl _ _, fun q hq => by cases hq⟩
      case round =>
        obtain ⟨j, gs, spg, hj, rfl, hog, h2, hbl2, hfr2, hfa, hnew⟩ := hrel
        clear hbl hfr h20
        by_cases hlj : j < i
        · obtain ⟨⟨A, n, c⟩, hr⟩ := HAT.out j hlj
          have HR := Lib.hid hr
          have hn := (HO.out j _ hr).2
          simp only at hn
          clear hr
          obtain ⟨wo, hwo⟩ : ∃ wo : World, wo = wr := ⟨_, rfl⟩
          subst hwo
          have hc0 := HCL.out wo j A n c hbl2 HR.out
          have h3 : Inv3 5 mkT mkG rows 90 wo j gs ⟨A, n, c⟩ (.slice A n c) 0 := h2.begin HD.out HR.out (fun j' r' hr' q hq => Nat.lt_of_lt_of_le (HS.out j' r' hr' q hq) hfa.size)
          have hgb : ∀ q, (Value.slice A n c).ownBlock = some q → Of rows q ∨ w.heap.size ≤ q := fun q hq => .inl ⟨j, _, HR.out, hq⟩
          clear h2
          go_wp2
          go_loopw [7, 8] (fun g kk wr => ∃ k : Nat, k ≤ 90 ∧ kk = .int .i64 k ∧ Inv3 5 mkT mkG rows 90 wr j gs ⟨A, n, c⟩ g k ∧ Owx wr 22 1 u5 j gs spg ∧ Blk wr gl 22 (rows.map Row.v ++ spl) ∧ Frm (Of rows) w wr ∧ Frm (fun _ => True) wa wr ∧ (∀ q, g.ownBlock = some q → Of rows q ∨ w.heap.size ≤ q)) (fun _ kk _ => 90 - (intI kk))
          case atStart => exact ⟨0, by omega, rfl, h3, hog, hbl2, hfr2, hfa, hgb⟩
          case round =>
            obtain ⟨k, hk, rfl, h3, hog, hbl2, hfr2, hfa, hgb⟩ := hrel
            by_cases hlk : k < 90
            · obtain ⟨spc, hcur⟩ : ∃ sp, Owx wr 5 1 u7 (n + k) (mkl (mkT j) n ++ mkl (mkG j) k) sp := h3.cur
              have ht := fun wx => tell_any (j + 100) k (by omega) (by omega) wx
              rw [show ((j + 100 : Nat) : Int) = (j : Int) + 100 by omega] at ht
              go_wp2_with fail
              with_reducible refine (ht _).mono ?_
              rintro e w' ⟨rfl, rfl⟩
              go_wp2_with (at_builtin; refine wpList_appx _ rfl _ _ 22 rfl 5 _ 1 1 Tryd.underlying22 info5 rfl (by decide) rfl (hcur.alloc _) rfl rfl (rd_one _ _ _) (one_int _ _) (by unfold maxLen; omega) (by omega) ?_)
              · intro v1 w1 sp1 ho1 hy1
                have hA1 := (Frm.refl (fun _ => False) w').alloc (.cells #[.int .u8 (tl (j + 100) k)] 5)
                have h3' := h3.grow HR.out hA1 hy1 ⟨sp1, by rw [mkl_succ]; exact ho1⟩
                have hot := own_other (u := 22) (hcur.alloc (.cells #[.int .u8 (tl (j + 100) k)] 5)) (by decide)
                have hog' := (hog.alloc (.cells #[.int .u8 (tl (j + 100) k)] 5)).keep hy1.frm (fun q cs hq => hot q cs hq)
                have hbl' := (hbl2.alloc (.cells #[.int .u8 (tl (j + 100) k)] 5)).frm hy1.frm (fun hq => hot _ _ hq (hbl2.alloc _))
                have hfr' : Frm (Of rows) w w1 := (hfr2.alloc (.cells #[.int .u8 (tl (j + 100) k)] 5)).trans2 hy1.frm (fun q hq hlt => (hgb q hq).elim (fun h => h) (fun h => by omega))
                have hfa' : Frm (fun _ => True) wa w1 := (hfa.alloc (.cells #[.int .u8 (tl (j + 100) k)] 5)).trans2 hy1.frm (fun q hq hlt => trivial)
                have hgb' : ∀ q, v1.ownBlock = some q → Of rows q ∨ w.heap.size ≤ q := fun q hq => by
                  rcases hy1.at_ with e | e
                  · exact hgb q (e ▸ hq)
                  · rw [hq] at e; cases e
                    have := hfr2.size
                    exact .inr (by simp; omega)
                clear h3 hog hbl2 hfr2 hfa hgb hcur hot hA1 hy1 ho1 ht
                go_wp2
                go_roundw
                case rel => exact ⟨k + 1, by omega, by go_num, h3', hog', hbl', hfr', hfa', hgb'⟩
                case measure => simp [intI]; omega
            · obtain rfl : k = 90 := by omega
              obtain ⟨A7, c7, e7, _, _⟩ := (h3.cur.elim (fun _ h => h.rd) : ∃ A cap, u7 = .slice A (n + 90) cap ∧ n + 90 ≤ cap ∧ Rd wr A (mkl (mkT j) n ++ mkl (mkG j) 90))
              subst e7
              have hot := own_other (u := 5) hog (by decide)
              go_wp2_with (at_builtin; refine wpList_appx _ rfl _ _ 55 rfl 22 _ 1 24 Tryd.underlying55 info22 rfl (by decide) rfl (hog.alloc _) rfl rfl (rd_one _ _ _) (one_slice _ _ _) (by unfold maxLen; omega) (by omega) ?_)
              · intro v1 w1 sp1 ho1 hy1
                have hA1 := (Frm.refl (fun _ => False) wr).alloc (.cells #[.slice A7 (n + 90) c7] 22)
                have hall : Frm (fun q => u5.ownBlock = some q) wr w1 := (hA1.mono (fun _ _ h => h.elim)).trans2 hy1.frm (fun q hq _ => hq)
                have h2' := h3.done HD.out HR.out hall (fun q cs hq => hot q cs hq)
                have hbl' := hbl2.frm hall (fun hq => by have := hnew _ hq; have := HG.out; omega)
                have hfr' : Frm (Of rows) w w1 := hfr2.trans2 hall (fun q hq hlt => by have := hnew _ hq; omega)
                have hfa' : Frm (fun _ => True) wa w1 := hfa.trans2 hall (fun q hq hlt => trivial)
                have hnew' := fresh_app (B := w.heap.size) (by have := hfr2.size; simp; omega) hnew hy1.at_
                clear h3 hog hbl2 hfr2 hfa hgb hot hA1 hy1 hall
                go_wp2
                go_roundw
                case rel => exact ⟨j + 1, _, sp1, by omega, by go_num, ho1, h2', hbl', hfr', hfa', hnew'⟩
                case measure => simp [intI]; omega
        · obtain rfl : j = i := by omega
          go_wp2
          obtain ⟨Ag, cg, eg, _, hrg⟩ := hog.rd
          subst eg
          have HRG := Lib.hid hrg
          have HGR := Lib.hid h2.grown
          have HLV := Lib.hid h2.live
          have HLN := Lib.hid h2.len
          clear hog hrg h2 hfa hnew
          obtain ⟨wz, hwz⟩ : ∃ wz : World, wz = wr := ⟨_, rfl⟩
          subst hwz
          have HFR := Lib.hid hfr2
          clear hfr2
          go_loopw [9, 10, 11, 12] (fun ii _ _ _ wr => ∃ p : Nat, p ≤ j ∧ ii = .int .i64 p ∧ ∃ mm, wr = wz.drewN mm) (fun ii _ _ _ _ => j - (intI ii))
          case atStart => exact ⟨0, by omega, rfl, 0, rfl⟩
          case round =>
            obtain ⟨p, hp, rfl, hwr⟩ := hrel
            have HW := Lib.hid hwr
            clear hwr
            by_cases hlp : p < j
            · obtain ⟨⟨A, n, c⟩, hr⟩ := HAT.out p hlp
              have HR := Lib.hid hr
              have hn := (HO.out p _ hr).2
              simp only at hn
              clear hr
              obtain ⟨gp, hgp⟩ : ∃ gp, gs[p]? = some gp := ⟨gs[p]'(by rw [HLN.out]; exact hlp), List.getElem?_eq_getElem _⟩
              obtain ⟨Ap, cp, ep, _, hrp⟩ := ((HGR.out p gp _ hgp HR.out).elim (fun _ h => h.rd) : ∃ Ap cp, gp = .slice Ap (n + 90) cp ∧ n + 90 ≤ cp ∧ Rd wz Ap (mkl (mkT p) n ++ mkl (mkG p) 90))
              subst ep
              obtain ⟨adg, eadg, hcg⟩ := HRG.out.at_ hgp
              subst eadg
              have hcl0 := HCL.out wz p A n c hbl2 HR.out
              have hcl1 : wr.cell? ⟨gl, p, none⟩ = some (.slice A n c) := by obtain ⟨mm, e⟩ := HW.out; rw [e]; exact hcl0
              have HRP := Lib.hid hrp
              have HC0 := Lib.hid hcl0
              have HCG := Lib.hid hcg
              clear hrp hgp hcl0 hcg
              go_wp2
              go_loopw [11] (fun kk wr => ∃ k : Nat, k ≤ n ∧ kk = .int .i64 k ∧ ∃ mm, wr = wz.drewN mm) (fun kk _ => n - (intI kk))
              case atStart => exact ⟨0, by omega, rfl, HW.out⟩
              case round =>
                clear HW hcl1
                obtain ⟨k, hk, rfl, hwr⟩ := hrel
                have HW := Lib.hid hwr
                clear hwr
                by_cases hlk : k < n
                · obtain ⟨b, sp, hA, hb⟩ := HLV.out p _ HR.out (by show 0 < n; omega)
                  have hA' : A = some ⟨b, 0, none⟩ := hA
                  have hcb : wr.cell? ⟨b, k, none⟩ = some (mkT p k) := by
                    obtain ⟨mm, e⟩ := HW.out
                    rw [e]
                    show wz.cell? _ = _
                    rw [hb.cell, List.getElem?_append_left (by rw [mkl_len]; exact hlk), mkl_get _ _ _ hlk]
                  have hcl1 : wr.cell? ⟨gl, p, none⟩ = some (.slice A n c) := by obtain ⟨mm, e⟩ := HW.out; rw [e]; exact HC0.out
                  have ht := fun wx => tell_any p k (by omega) (by omega) wx
                  subst hA'
                  unfold mkT at hcb
                  clear hb hA
                  generalize tl p k = tv at *
                  go_wp2_with fail
                  go_quiet ((go_at_call 40; (with_reducible exact Calls.quiet_of_same (ht _))))
                  go_wp2
                  go_roundw
                  case rel => exact ⟨k + 1, by omega, by go_num, by obtain ⟨mm, e⟩ := HW.out; exact ⟨_, by rw [e]; exact World.drewN_drewN _ _ _⟩⟩
                  case measure => simp [intI]; omega
                · obtain rfl : k = n := by omega
                  go_wp2
                  go_loopw [12] (fun kk wr => ∃ q : Nat, q ≤ 90 ∧ kk = .int .i64 q ∧ ∃ mm, wr = wz.drewN mm) (fun kk _ => 90 - (intI kk))
                  case atStart => exact ⟨0, by omega, rfl, HW.out⟩
                  case round =>
                    clear HW
                    obtain ⟨q, hq, rfl, hwr⟩ := hrel
                    have HW := Lib.hid hwr
                    clear hwr
                    by_cases hlq : q < 90
                    · obtain ⟨adp, eadp, hcp⟩ := HRP.out.at_ (k := k + q) (u := mkG p q) (by rw [List.getElem?_append_right (by rw [mkl_len]; omega), mkl_len, show k + q - k = q by omega]; exact mkl_get _ _ _ hlq)
                      subst eadp
                      have hcp1 : wr.cell? (adp.add (k + q)) = some (mkG p q) := by obtain ⟨mm, e⟩ := HW.out; rw [e]; exact hcp
                      have hcg1 : wr.cell? (adg.add p) = some (.slice (some adp) (k + 90) cp) := by obtain ⟨mm, e⟩ := HW.out; rw [e]; exact HCG.out
                      have ht := fun wx => tell_any (p + 100) q (by omega) (by omega) wx
                      rw [show ((p + 100 : Nat) : Int) = (p : Int) + 100 by omega] at ht
                      unfold mkG at hcp1
                      clear hcp
                      generalize tl (p + 100) q = tv at *
                      have hq1 : ((k : Int) + (q : Int)).toNat = k + q := by omega
                      have hb1 : (k : Int) + (q : Int) < (k : Int) + 90 := by omega
                      have hb2 : 0 ≤ (k : Int) + (q : Int) := by omega
                      go_wp2_with fail
                      go_quiet ((go_at_call 40; (with_reducible exact Calls.quiet_of_same (ht _))))
                      go_wp2
                      go_roundw
                      case rel => exact ⟨q + 1, by omega, by go_num, by obtain ⟨mm, e⟩ := HW.out; exact ⟨_, by rw [e]; exact World.drewN_drewN _ _ _⟩⟩
                      case measure => simp [intI]; omega
                    · obtain rfl : q = 90 := by omega
                      go_wp2
                      go_roundw
                      case rel => exact ⟨p + 1, by omega, by go_num, HW.out⟩
                      case measure => simp [intI]; omega
            · obtain rfl : p = j := by omega
              go_wp2
              go_ret
              obtain ⟨mm, e⟩ := HW.out
              exact ⟨rfl, by rw [e]; exact HFR.out.drewN _⟩
end Go.Proofs.YtekbjcagjkcaiaaDoor
