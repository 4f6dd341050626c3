/- The walk of apart: lists that have memory of their own. -/
import Derived.Test.YtelpdcggpahocaaW3
import Derived.Test.YtelpdcggpahocaaApart
namespace Go.Proofs.Ytelpdcggpahocaa
open Go.RowKit
set_option linter.unusedVariables false
set_option linter.unusedSimpArgs false
theorem info22 : (Try.prog.info? 22).map (fun i => (i.zero, i.size, i.bytes)) = some (some (.slice none 0 0), 1, 24) := by kernel_rfl
/-- The mark of the list number i. -/
def mk11 (i : Nat) : Value := .int .u8 (17 + (i : Int))
/-- The blocks of the rows. -/
def Of (rows : List Row) (q : Nat) : Prop := ∃ (j : Nat) (r : Row), rows[j]? = some r ∧ r.v.ownBlock = some q
theorem Inv1.ne {t u : TypeId} {mk : Nat → Value} {rows : List Row} {w : World} {i k gl : Nat} {cs : List Value} (h : Inv1 t mk rows w i k) (hb : Blk w gl u cs) (hne : u ≠ t) : ¬ Of rows gl := by
  rintro ⟨j, r, hr, ho⟩
  obtain ⟨xs, sp, hown, _⟩ := h j r hr
  rcases hown with ⟨e, _⟩ | ⟨g, cap, e, hb2, _⟩
  · rw [e] at ho; cases ho
  · rw [e] at ho; cases ho; exact hb.other hne hb2

theorem own_other {w : World} {t u : TypeId} {v : Value} {n : Nat} {xs sp : List Value} (h : Own w t 1 v n xs sp) (hne : t ≠ u) : ∀ q cs, v.ownBlock = some q → ¬ Blk w q u cs := by
  intro q cs hq
  rcases h with ⟨e, _⟩ | ⟨g, cap, e, hb, _⟩
  · rw [e] at hq; cases hq
  · rw [e] at hq; cases hq; exact hb.other hne
theorem own_one {w : World} {t : TypeId} {v : Value} {n : Nat} {xs sp : List Value} (h : Own w t 1 v n xs sp) : ∀ u ∈ [v], u.oneCell' = true := by
  obtain ⟨A, c, rfl, _, _⟩ := h.rd
  exact one_slice _ _ _
set_option maxHeartbeats 4000000 in
theorem apart_any (gl cap m : Nat) (rows : List Row) (spl : List Value) (w : World) (hlen : rows.length = m) (hb : Blk w gl 22 (rows.map Row.v ++ spl)) (hd : Dis rows) (hm : m ≤ 100)
    (ho : ∀ (j : Nat) (r : Row), rows[j]? = some r → (∃ xs sp, Own w 5 1 r.v r.n xs sp) ∧ r.n ≤ 140737488355000) :
    Calls Try.prog 15 #[.slice (some ⟨gl, 0, none⟩) m cap] w fun e w' => e = .returned (.bool true) ∧ Frm (Of rows) w w' := by
  have HM := Lib.hid hlen
  clear hlen
  have hat : ∀ i, i < m → ∃ r, rows[i]? = some r := fun i hi => ⟨rows[i]'(by rw [HM.out]; exact hi), List.getElem?_eq_getElem _⟩
  have hcl : ∀ (wx : World) (i : Nat) (A : Option Addr) (n c : Nat), Blk wx gl 22 (rows.map Row.v ++ spl) → rows[i]? = some ⟨A, n, c⟩ → wx.cell? ⟨gl, i, none⟩ = some (.slice A n c) := by
    intro wx i A n c hbx hr
    have hi : i < (rows.map Row.v).length := by
      rcases Nat.lt_or_ge i rows.length with h1 | h1
      · simpa using h1
      · rw [List.getElem?_eq_none h1] at hr; cases hr
    rw [hbx.cell, List.getElem?_append_left hi, rows_at rows i _ hr]; rfl
  have HAT := Lib.hid hat
  have HCL := Lib.hid hcl
  have HO := Lib.hid ho
  have HD := Lib.hid hd
  have HG := Lib.hid hb.lt
  clear hat hcl ho hd
  have h10 : Inv1 5 mk11 rows w 0 0 := fun j r hr => by
    obtain ⟨⟨xs, sp, h⟩, _⟩ := HO.out j r hr
    exact ⟨xs, sp, h, fun q _ hc => by omega⟩
  go_enter Try.func15, Try.ntmps15
  go_wp2
  go_loopw [4, 5] (fun i _ wr => ∃ k : Nat, k ≤ m ∧ i = .int .i64 k ∧ Inv1 5 mk11 rows wr k 0 ∧ Blk wr gl 22 (rows.map Row.v ++ spl) ∧ Frm (Of rows) w wr) (fun i _ _ => m - (intOf i).toNat)
  case atStart => exact ⟨0, by omega, rfl, h10, hb, Frm.refl _ _⟩
  case round =>
    obtain ⟨i, hi, rfl, hin, hbl, hfr⟩ := hrel
    clear hb h10
    by_cases hlt : i < m
    · obtain ⟨⟨A, n, c⟩, hr⟩ := HAT.out i hlt
      have HR := Lib.hid hr
      have hn := (HO.out i _ hr).2
      simp only at hn
      clear hr
      obtain ⟨wo, hwo⟩ : ∃ wo : World, wo = wr := ⟨_, rfl⟩
      subst hwo
      have hc0 := HCL.out wo i A n c hbl HR.out
      go_wp2
      go_loopw [5] (fun kk wr => ∃ k : Nat, k ≤ n ∧ kk = .int .i64 k ∧ Inv1 5 mk11 rows wr i k ∧ Blk wr gl 22 (rows.map Row.v ++ spl) ∧ Frm (Of rows) w wr) (fun kk _ => n - (intOf kk).toNat)
      case atStart => exact ⟨0, by omega, rfl, hin, hbl, hfr⟩
      case round =>
        obtain ⟨k, hk, rfl, hin2, hbl2, hfr2⟩ := hrel
        clear hin hbl hfr
        have hc1 := HCL.out wr i A n c hbl2 HR.out
        by_cases hlk : k < n
        · obtain ⟨g, hA, _, hz, ⟨u, hcu⟩, hob⟩ := hin2.addr HR.out hlk
          have hA' : A = some ⟨g, 0, none⟩ := hA
          have hst := hin2.store HD.out HR.out hlk hA
          have hng := hin2.ne hbl2 (by decide)
          have hbl3 := hbl2.far (p := ⟨g, k, none⟩) (fun e => hng ⟨i, _, HR.out, by rw [hob, e]⟩) (mk11 i)
          have hfr3 := hfr2.setCell (p := ⟨g, k, none⟩) (fun _ => ⟨i, _, HR.out, hob⟩) (mk11 i)
          subst hA'
          clear hin2 hbl2 hfr2 hA hng hob
          go_wp2
          go_roundw
          case rel => exact ⟨k + 1, by omega, by go_num, hst, hbl3, hfr3⟩
          case measure => simp [intOf]; omega
        · obtain rfl : k = n := by omega
          go_wp2
          go_roundw
          case rel => exact ⟨i + 1, by omega, by go_num, hin2.next HR.out, hbl2, hfr2⟩
          case measure => simp [intOf]; omega
    · obtain rfl : i = m := by omega
      go_wp2
      have hsm : ∀ (j : Nat) (r : Row), rows[j]? = some r → ∀ q, r.v.ownBlock = some q → q < wr.heap.size := fun j r hr q hq => by
        obtain ⟨xs, sp, h, _⟩ := hin j r hr
        exact h.lt q hq
      have hsm0 : ∀ (j : Nat) (r : Row), rows[j]? = some r → ∀ q, r.v.ownBlock = some q → q < wr.heap.size := hsm
      have h20 : Inv2 5 mk11 rows 64 wr 0 [] := Inv2.start HD.out (by rw [HM.out]; exact hin)
      have HS := Lib.hid hsm
      clear hsm hsm0 hin
      obtain ⟨wa, hwa⟩ : ∃ wa : World, wa = wr := ⟨_, rfl⟩
      subst hwa
      go_loopw [3, 6] (fun gr ii wr => ∃ (k : Nat) (gs spg : List Value), k ≤ i ∧ ii = .int .i64 k ∧ Own wr 22 1 gr k gs spg ∧ Inv2 5 mk11 rows 64 wr k gs ∧ Blk wr gl 22 (rows.map Row.v ++ spl) ∧ Frm (Of rows) w wr ∧ Frm (fun _ => True) wa wr ∧ (∀ q, gr.ownBlock = some q → w.heap.size ≤ q)) (fun _ ii _ => i - (intOf ii).toNat)
      case atStart => exact ⟨0, [], [], by omega, rfl, .inl ⟨rfl, rfl, rfl, rfl⟩, h20, hbl, hfr, Frm.refl _ _, fun q hq => by cases hq⟩
      case round =>
        obtain ⟨j, gs, spg, hj, rfl, hog, h2, hbl2, hfr2, hfa, hnew⟩ := hrel
        clear hbl hfr h20
        by_cases hlj : j < i
        · obtain ⟨⟨A, n, c⟩, hr⟩ := HAT.out j hlj
          have HR := Lib.hid hr
          have hn := (HO.out j _ hr).2
          simp only at hn
          clear hr
          obtain ⟨wo, hwo⟩ : ∃ wo : World, wo = wr := ⟨_, rfl⟩
          subst hwo
          have hc0 := HCL.out wo j A n c hbl2 HR.out
          have h3 : Inv3 5 mk11 rows 64 wo j gs ⟨A, n, c⟩ (.slice A n c) 0 := h2.begin HD.out HR.out (fun j' r' hr' q hq => Nat.lt_of_lt_of_le (HS.out j' r' hr' q hq) hfa.size)
          have hgb : ∀ q, (Value.slice A n c).ownBlock = some q → Of rows q ∨ w.heap.size ≤ q := fun q hq => .inl ⟨j, _, HR.out, hq⟩
          clear h2
          go_wp2
          go_loopw [7, 8] (fun g kk wr => ∃ k : Nat, k ≤ 64 ∧ kk = .int .i64 k ∧ Inv3 5 mk11 rows 64 wr j gs ⟨A, n, c⟩ g k ∧ Own wr 22 1 u3 j gs spg ∧ Blk wr gl 22 (rows.map Row.v ++ spl) ∧ Frm (Of rows) w wr ∧ Frm (fun _ => True) wa wr ∧ (∀ q, g.ownBlock = some q → Of rows q ∨ w.heap.size ≤ q)) (fun _ kk _ => 64 - (intOf kk).toNat)
          case atStart => exact ⟨0, by omega, rfl, h3, hog, hbl2, hfr2, hfa, hgb⟩
          case round =>
            obtain ⟨k, hk, rfl, h3, hog, hbl2, hfr2, hfa, hgb⟩ := hrel
            by_cases hlk : k < 64
            · obtain ⟨spc, hcur⟩ : ∃ sp, Own wr 5 1 u7 (n + k) (List.replicate (n + k) (mk11 j)) sp := h3.cur
              go_wp2_with (at_builtin; refine wpList_app _ rfl _ _ 22 rfl 5 _ 1 1 Try.underlying22 info5 rfl (by decide) rfl (hcur.alloc _) rfl rfl (rd_one _ _ _) (one_int _ _) (by unfold maxLen; omega) (by omega) ?_)
              · intro v1 w1 sp1 ho1 hy1
                have hA1 := (Frm.refl (fun _ => False) wr).alloc (.cells #[mk11 j] 5)
                have h3' := h3.grow HR.out hA1 hy1 ⟨sp1, by show Own w1 _ 1 v1 (n + k + 1) (List.replicate (n + k + 1) (mk11 j)) sp1; rw [List.replicate_succ']; exact ho1⟩
                have hot := own_other (u := 22) (hcur.alloc (.cells #[mk11 j] 5)) (by decide)
                have hog' := (hog.alloc (.cells #[mk11 j] 5)).keep hy1.frm (fun q cs hq => hot q cs hq)
                have hbl' := (hbl2.alloc (.cells #[mk11 j] 5)).frm hy1.frm (fun hq => hot _ _ hq (hbl2.alloc _))
                have hfr' : Frm (Of rows) w w1 := (hfr2.alloc (.cells #[mk11 j] 5)).trans2 hy1.frm (fun q hq hlt => (hgb q hq).elim (fun h => h) (fun h => by omega))
                have hfa' : Frm (fun _ => True) wa w1 := (hfa.alloc (.cells #[mk11 j] 5)).trans2 hy1.frm (fun q hq hlt => trivial)
                have hgb' : ∀ q, v1.ownBlock = some q → Of rows q ∨ w.heap.size ≤ q := fun q hq => by
                  rcases hy1.at_ with e | e
                  · exact hgb q (e ▸ hq)
                  · rw [hq] at e; cases e
                    have := hfr2.size
                    exact .inr (by simp; omega)
                clear h3 hog hbl2 hfr2 hfa hgb hcur hot hA1 hy1 ho1
                go_wp2
                go_roundw
                case rel => exact ⟨k + 1, by omega, by go_num, h3', hog', hbl', hfr', hfa', hgb'⟩
                case measure => simp [intOf]; omega
            · obtain rfl : k = 64 := by omega
              obtain ⟨A7, c7, e7, _, _⟩ := (h3.cur.elim (fun _ h => h.rd) : ∃ A cap, u7 = .slice A (n + 64) cap ∧ n + 64 ≤ cap ∧ Rd wr A (List.replicate (n + 64) (mk11 j)))
              subst e7
              have hot := own_other (u := 5) hog (by decide)
              go_wp2_with (at_builtin; refine wpList_app _ rfl _ _ 28 rfl 22 _ 1 24 Try.underlying28 info22 rfl (by decide) rfl (hog.alloc _) rfl rfl (rd_one _ _ _) (one_slice _ _ _) (by unfold maxLen; omega) (by omega) ?_)
              · intro v1 w1 sp1 ho1 hy1
                have hA1 := (Frm.refl (fun _ => False) wr).alloc (.cells #[.slice A7 (n + 64) c7] 22)
                have hall : Frm (fun q => u3.ownBlock = some q) wr w1 := (hA1.mono (fun _ _ h => h.elim)).trans2 hy1.frm (fun q hq _ => hq)
                have h2' := h3.done HD.out HR.out hall (fun q cs hq => hot q cs hq)
                have hbl' := hbl2.frm hall (fun hq => by have := hnew _ hq; have := HG.out; omega)
                have hfr' : Frm (Of rows) w w1 := hfr2.trans2 hall (fun q hq hlt => by have := hnew _ hq; omega)
                have hfa' : Frm (fun _ => True) wa w1 := hfa.trans2 hall (fun q hq hlt => trivial)
                have hnew' := fresh_app (B := w.heap.size) (by have := hfr2.size; simp; omega) hnew hy1.at_
                clear h3 hog hbl2 hfr2 hfa hgb hot hA1 hy1 hall
                go_wp2
                go_roundw
                case rel => exact ⟨j + 1, _, sp1, by omega, by go_num, ho1, h2', hbl', hfr', hfa', hnew'⟩
                case measure => simp [intOf]; omega
        · obtain rfl : j = i := by omega
          go_wp2
          obtain ⟨Ag, cg, eg, _, hrg⟩ := hog.rd
          subst eg
          have HRG := Lib.hid hrg
          have HGR := Lib.hid h2.grown
          have HLV := Lib.hid h2.live
          have HLN := Lib.hid h2.len
          have HFR := Lib.hid hfr2
          clear hog hrg h2 hfr2 hfa hnew
          go_loop [9] (fun ii => ∃ p : Nat, p ≤ j ∧ ii = .int .i64 p) (fun ii => j - (intOf ii).toNat)
          case atStart => exact ⟨0, by omega, rfl⟩
          case round =>
            obtain ⟨p, hp, rfl⟩ := hrel
            by_cases hlp : p < j
            · obtain ⟨⟨A, n, c⟩, hr⟩ := HAT.out p hlp
              have HR := Lib.hid hr
              have hn := (HO.out p _ hr).2
              simp only at hn
              clear hr
              obtain ⟨gp, hgp⟩ : ∃ gp, gs[p]? = some gp := ⟨gs[p]'(by rw [HLN.out]; exact hlp), List.getElem?_eq_getElem _⟩
              obtain ⟨Ap, cp, ep, _, hrp⟩ := ((HGR.out p gp _ hgp HR.out).elim (fun _ h => h.rd) : ∃ Ap cp, gp = .slice Ap (n + 64) cp ∧ n + 64 ≤ cp ∧ Rd wr Ap (List.replicate (n + 64) (mk11 p)))
              subst ep
              obtain ⟨adg, eadg, hcg⟩ := HRG.out.at_ hgp
              subst eadg
              have hcl0 := HCL.out wr p A n c hbl2 HR.out
              have HRP := Lib.hid hrp
              clear hrp hgp
              go_wp2
              go_loop [10] (fun kk => ∃ k : Nat, k ≤ n + 64 ∧ kk = .int .i64 k) (fun kk => n + 64 - (intOf kk).toNat)
              case atStart => exact ⟨0, by omega, rfl⟩
              case round =>
                obtain ⟨k, hk, rfl⟩ := hrel
                by_cases hlk : k < n + 64
                · obtain ⟨adp, eadp, hcp⟩ := HRP.out.at_ (k := k) (u := mk11 p) (by rw [List.getElem?_replicate, if_pos hlk])
                  subst eadp
                  by_cases hln : k < n
                  · obtain ⟨b, sp, hA, hb⟩ := HLV.out p _ HR.out (by show 0 < n; omega)
                    have hA' : A = some ⟨b, 0, none⟩ := hA
                    have hcb : wr.cell? ⟨b, k, none⟩ = some (mk11 p) := by
                      rw [hb.cell, List.getElem?_append_left (by simp; exact hln), List.getElem?_replicate, if_pos hln]
                    subst hA'
                    unfold mk11 at hcb hcp
                    clear hb hA
                    go_wp2
                    go_round
                    case rel => exact ⟨k + 1, by omega, by go_num⟩
                    case measure => simp [intOf]; omega
                  · unfold mk11 at hcp
                    go_wp2
                    go_round
                    case rel => exact ⟨k + 1, by omega, by go_num⟩
                    case measure => simp [intOf]; omega
                · obtain rfl : k = n + 64 := by omega
                  go_wp2
                  go_round
                  case rel => exact ⟨p + 1, by omega, by go_num⟩
                  case measure => simp [intOf]; omega
            · obtain rfl : p = j := by omega
              go_wp2
              go_ret
              exact ⟨rfl, HFR.out⟩
end Go.Proofs.Ytelpdcggpahocaa
