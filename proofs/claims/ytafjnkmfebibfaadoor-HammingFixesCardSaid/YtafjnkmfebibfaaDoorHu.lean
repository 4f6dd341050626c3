/- The walk of own: lists that have memory of their own, spare room too. -/
import Derived.Test.YtafjnkmfebibfaaDoorHk
import Derived.Test.YtafjnkmfebibfaaDoorHua
namespace Go.Proofs.YtafjnkmfebibfaaDoor
open Go.RowKit
set_option linter.unusedVariables false
set_option linter.unusedSimpArgs false
/-- The mark of the list number i. -/
def tl (i : Nat) : Int := IntKind.u8.wrap (17 + (i : Int))
def mkT (i _k : Nat) : Value := .int .u8 (tl i)
def mkG (_i _k : Nat) : Value := .int .u8 153
/-- The blocks of the rows. -/
def Of (rows : List Row) (q : Nat) : Prop := ∃ (j : Nat) (r : Row), rows[j]? = some r ∧ r.v.ownBlock = some q
theorem Inv1.ne {t u : TypeId} {mk : Nat → Nat → Value} {rows : List Row} {w : World} {i k gl : Nat} {cs : List Value} (h : Inv1 t mk rows w i k) (hb : Blk w gl u cs) (hne : u ≠ t) : ¬ Of rows gl := by
  rintro ⟨j, r, hr, ho⟩
  obtain ⟨xs, sp, hown, _⟩ := h j r hr
  rcases hown with ⟨e, _⟩ | ⟨g, cap, e, hb2, _⟩
  · rw [e] at ho; cases ho
  · rw [e] at ho; cases ho; exact hb.other hne hb2
theorem own_other {w : World} {t u : TypeId} {v : Value} {n : Nat} {xs sp : List Value} (h : Owx w t 1 v n xs sp) (hne : t ≠ u) : ∀ q cs, v.ownBlock = some q → ¬ Blk w q u cs := by
  intro q cs hq
  rcases h with ⟨e, _⟩ | ⟨g, cap, e, hb, _⟩
  · rw [e] at hq; cases hq
  · rw [e] at hq; cases hq; exact hb.other hne
theorem Inv1.drew {t : TypeId} {mk : Nat → Nat → Value} {rows : List Row} {w : World} {i k : Nat} (h : Inv1 t mk rows w i k) : Inv1 t mk rows w.drew i k := h
set_option maxHeartbeats 4000000 in
theorem own_any (gl cap m : Nat) (rows : List Row) (spl : List Value) (w : World) (hlen : rows.length = m) (hb : Blk w gl 22 (rows.map Row.v ++ spl)) (hd : Dis rows) (hm : m ≤ 100)
    (ho : ∀ (j : Nat) (r : Row), rows[j]? = some r → (∃ xs sp, Owx w 5 1 r.v r.n xs sp) ∧ r.n ≤ 140737488355000) :
    Calls Tryd.prog 12 #[.slice (some ⟨gl, 0, none⟩) m cap] w fun e w' => e = .returned (.bool true) ∧ Frm (Of rows) w w' := by
  have HM := Lib.hid hlen
  clear hlen
  have hat : ∀ i, i < m → ∃ r, rows[i]? = some r := fun i hi => ⟨rows[i]'(by rw [HM.out]; exact hi), List.getElem?_eq_getElem _⟩
  have hcl : ∀ (wx : World) (i : Nat) (A : Option Addr) (n c : Nat), Blk wx gl 22 (rows.map Row.v ++ spl) → rows[i]? = some ⟨A, n, c⟩ → wx.cell? ⟨gl, i, none⟩ = some (.slice A n c) := by
    intro wx i A n c hbx hr
    have hi : i < (rows.map Row.v).length := by
      rcases Nat.lt_or_ge i rows.length with h1 | h1
      · simpa using h1
      · rw [List.getElem?_eq_none h1] at hr; cases hr
    rw [hbx.cell, List.getElem?_append_left hi, rows_at rows i _ hr]; rfl
  have HAT := Lib.hid hat
  have HCL := Lib.hid hcl
  have HO := Lib.hid ho
  have HD := Lib.hid hd
  have HG := Lib.hid hb.lt
  clear hat hcl ho hd
  have h10 : Inv1 5 mkT rows w 0 0 := fun j r hr => by
    obtain ⟨⟨xs, sp, h⟩, _⟩ := HO.out j r hr
    exact ⟨xs, sp, h, fun q _ hc => by omega⟩
  go_enter Tryd.func12, Tryd.ntmps12
  go_wp2
  go_loopw [3, 4] (fun i _ wr => ∃ k : Nat, k ≤ m ∧ i = .int .i64 k ∧ Inv1 5 mkT rows wr k 0 ∧ Blk wr gl 22 (rows.map Row.v ++ spl) ∧ Frm (Of rows) w wr) (fun i _ _ => m - (intI i))
  case atStart => exact ⟨0, by omega, rfl, h10, hb, Frm.refl _ _⟩
  case round =>
    obtain ⟨i, hi, rfl, hin, hbl, hfr⟩ := hrel
    clear hb h10
    by_cases hlt : i < m
    · obtain ⟨⟨A, n, c⟩, hr⟩ := HAT.out i hlt
      have HR := Lib.hid hr
      have hn := (HO.out i _ hr).2
      simp only at hn
      clear hr
      obtain ⟨wo, hwo⟩ : ∃ wo : World, wo = wr := ⟨_, rfl⟩
      subst hwo
      have hc0 := HCL.out wo i A n c hbl HR.out
      go_wp2
      go_loopw [4] (fun kk wr => ∃ k : Nat, k ≤ n ∧ kk = .int .i64 k ∧ Inv1 5 mkT rows wr i k ∧ Blk wr gl 22 (rows.map Row.v ++ spl) ∧ Frm (Of rows) w wr) (fun kk _ => n - (intI kk))
      case atStart => exact ⟨0, by omega, rfl, hin, hbl, hfr⟩
      case round =>
        obtain ⟨k, hk, rfl, hin2, hbl2, hfr2⟩ := hrel
        clear hin hbl hfr
        have hc1 := HCL.out wr i A n c hbl2 HR.out
        by_cases hlk : k < n
        · obtain ⟨g, hA, _, hz, ⟨u, hcu⟩, hob⟩ := hin2.addr HR.out hlk
          have hA' : A = some ⟨g, 0, none⟩ := hA
          have hst := hin2.store HD.out HR.out hlk hA
          have hng := hin2.ne hbl2 (by decide)
          have hbl3 := Blk.far hbl2 (p := ⟨g, k, none⟩) (fun e => hng ⟨i, _, HR.out, by rw [hob, e]⟩) (mkT i k)
          have hfr3 := hfr2.setCell (p := ⟨g, k, none⟩) (fun _ => ⟨i, _, HR.out, hob⟩) (mkT i k)
          unfold mkT at hst hbl3 hfr3
          have htl : IntKind.u8.wrap (17 + (i : Int)) = tl i := rfl
          generalize tl i = tv at *
          have hli : (i : Int) < (m : Int) := by omega
          have hlki : (k : Int) < (n : Int) := by omega
          subst hA'
          clear hin2 hbl2 hfr2 hA hng hob
          go_wp2
          go_roundw
          case rel => exact ⟨k + 1, by omega, by go_num, hst, hbl3, hfr3⟩
          case measure => simp [intI]; omega
        · obtain rfl : k = n := by omega
          go_wp2
          go_roundw
          case rel => exact ⟨i + 1, by omega, by go_num, hin2.next HR.out, hbl2, hfr2⟩
          case measure => simp [intI]; omega
    · obtain rfl : i = m := by omega
      go_wp2
      have hsm : ∀ (j : Nat) (r : Row), rows[j]? = some r → ∀ q, r.v.ownBlock = some q → q < wr.heap.size := fun j r hr q hq => by
        obtain ⟨xs, sp, h, _⟩ := hin j r hr
        exact h.lt q hq
      have h20 : Inv2 5 mkT mkG rows 64 wr 0 [] := Inv2.start HD.out (by rw [HM.out]; exact hin)
      have HS := Lib.hid hsm
      clear hsm hin
      obtain ⟨wa, hwa⟩ : ∃ wa : World, wa = wr := ⟨_, rfl⟩
      subst hwa
      go_loopw [5, 6, 7] (fun ii _ _ wr => ∃ (k : Nat) (gs : List Value), k ≤ i ∧ ii = .int .i64 k ∧ Inv2 5 mkT mkG rows 64 wr k gs ∧ Blk wr gl 22 (rows.map Row.v ++ spl) ∧ Frm (Of rows) w wr ∧ Frm (fun _ => True) wa wr) (fun ii _ _ _ => i - (intI ii))
      case atStart => exact ⟨0, [], by omega, rfl, h20, hbl, hfr, Frm.refl _ _⟩
      case round =>
        obtain ⟨j, gs, hj, rfl, h2, hbl2, hfr2, hfa⟩ := hrel
        clear hbl hfr h20
        by_cases hlj : j < i
        · obtain ⟨⟨A, n, c⟩, hr⟩ := HAT.out j hlj
          have HR := Lib.hid hr
          have hn := (HO.out j _ hr).2
          simp only at hn
          clear hr
          obtain ⟨wo, hwo⟩ : ∃ wo : World, wo = wr := ⟨_, rfl⟩
          subst hwo
          have hc0 := HCL.out wo j A n c hbl2 HR.out
          have h3 : Inv3 5 mkT mkG rows 64 wo j gs ⟨A, n, c⟩ (.slice A n c) 0 := h2.begin HD.out HR.out (fun j' r' hr' q hq => Nat.lt_of_lt_of_le (HS.out j' r' hr' q hq) hfa.size)
          have hgb : ∀ q, (Value.slice A n c).ownBlock = some q → Of rows q ∨ w.heap.size ≤ q := fun q hq => .inl ⟨j, _, HR.out, hq⟩
          clear h2
          go_wp2
          go_loopw [6, 7] (fun g kk wr => ∃ k : Nat, k ≤ 64 ∧ kk = .int .i64 k ∧ Inv3 5 mkT mkG rows 64 wr j gs ⟨A, n, c⟩ g k ∧ Blk wr gl 22 (rows.map Row.v ++ spl) ∧ Frm (Of rows) w wr ∧ Frm (fun _ => True) wa wr ∧ (∀ q, g.ownBlock = some q → Of rows q ∨ w.heap.size ≤ q)) (fun _ kk _ => 64 - (intI kk))
          case atStart => exact ⟨0, by omega, rfl, h3, hbl2, hfr2, hfa, hgb⟩
          case round =>
            obtain ⟨k, hk, rfl, h3, hbl2, hfr2, hfa, hgb⟩ := hrel
            by_cases hlk : k < 64
            · obtain ⟨spc, hcur⟩ : ∃ sp, Owx wr 5 1 u6 (n + k) (mkl (mkT j) n ++ mkl (mkG j) k) sp := h3.cur
              go_wp2_with (at_builtin; refine wpList_appx _ rfl _ _ 22 rfl 5 _ 1 1 Tryd.underlying22 info5 rfl (by decide) rfl (hcur.alloc _) rfl rfl (rd_one _ _ _) (one_int _ _) (by unfold maxLen; omega) (by omega) ?_)
              · intro v1 w1 sp1 ho1 hy1
                have hA1 := (Frm.refl (fun _ => False) wr).alloc (.cells #[.int .u8 153] 5)
                have h3' := h3.grow HR.out hA1 hy1 ⟨sp1, by rw [mkl_succ]; exact ho1⟩
                have hot := own_other (u := 22) (hcur.alloc (.cells #[.int .u8 153] 5)) (by decide)
                have hbl' := (hbl2.alloc (.cells #[.int .u8 153] 5)).frm hy1.frm (fun hq => hot _ _ hq (hbl2.alloc _))
                have hfr' : Frm (Of rows) w w1 := (hfr2.alloc (.cells #[.int .u8 153] 5)).trans2 hy1.frm (fun q hq hlt => (hgb q hq).elim (fun h => h) (fun h => by omega))
                have hfa' : Frm (fun _ => True) wa w1 := (hfa.alloc (.cells #[.int .u8 153] 5)).trans2 hy1.frm (fun q hq hlt => trivial)
                have hgb' : ∀ q, v1.ownBlock = some q → Of rows q ∨ w.heap.size ≤ q := fun q hq => by
                  rcases hy1.at_ with e | e
                  · exact hgb q (e ▸ hq)
                  · rw [hq] at e; cases e
                    have := hfr2.size
                    exact .inr (by simp; omega)
                clear h3 hbl2 hfr2 hfa hgb hcur hot hA1 hy1 ho1
                go_wp2
                go_roundw
                case rel => exact ⟨k + 1, by omega, by go_num, h3', hbl', hfr', hfa', hgb'⟩
                case measure => simp [intI]; omega
            · obtain rfl : k = 64 := by omega
              have h2' := h3.done HD.out HR.out (Frm.refl (fun _ => False) wr) (fun q cs hq => hq.elim)
              clear h3 hgb
              go_wp2
              go_roundw
              case rel => exact ⟨j + 1, _, by omega, by go_num, h2', hbl2, hfr2, hfa⟩
              case measure => simp [intI]; omega
        · obtain rfl : j = i := by omega
          go_wp2
          have HLV := Lib.hid h2.live
          clear h2 hfa
          obtain ⟨wz, hwz⟩ : ∃ wz : World, wz = wr := ⟨_, rfl⟩
          subst hwz
          have HFR := Lib.hid hfr2
          clear hfr2
          go_loopw [8, 9] (fun ii _ wr => ∃ p : Nat, p ≤ j ∧ ii = .int .i64 p ∧ ∃ mm, wr = wz.drewN mm) (fun ii _ _ => j - (intI ii))
          case atStart => exact ⟨0, by omega, rfl, 0, rfl⟩
          case round =>
            obtain ⟨p, hp, rfl, hwr⟩ := hrel
            have HW := Lib.hid hwr
            clear hwr
            by_cases hlp : p < j
            · obtain ⟨⟨A, n, c⟩, hr⟩ := HAT.out p hlp
              have HR := Lib.hid hr
              have hn := (HO.out p _ hr).2
              simp only at hn
              clear hr
              have hcl0 := HCL.out wz p A n c hbl2 HR.out
              have hcl1 : wr.cell? ⟨gl, p, none⟩ = some (.slice A n c) := by obtain ⟨mm, e⟩ := HW.out; rw [e]; exact hcl0
              have HC0 := Lib.hid hcl0
              clear hcl0
              go_wp2
              go_loopw [9] (fun kk wr => ∃ k : Nat, k ≤ n ∧ kk = .int .i64 k ∧ ∃ mm, wr = wz.drewN mm) (fun kk _ => n - (intI kk))
              case atStart => exact ⟨0, by omega, rfl, HW.out⟩
              case round =>
                clear HW hcl1
                obtain ⟨k, hk, rfl, hwr⟩ := hrel
                have HW := Lib.hid hwr
                clear hwr
                have hcl1 : wr.cell? ⟨gl, p, none⟩ = some (.slice A n c) := by obtain ⟨mm, e⟩ := HW.out; rw [e]; exact HC0.out
                by_cases hlk : k < n
                · obtain ⟨b, sp, hA, hb⟩ := HLV.out p _ HR.out (by show 0 < n; omega)
                  have hA' : A = some ⟨b, 0, none⟩ := hA
                  have hcb : wr.cell? ⟨b, k, none⟩ = some (mkT p k) := by
                    obtain ⟨mm, e⟩ := HW.out
                    rw [e]
                    show wz.cell? _ = _
                    rw [hb.cell, List.getElem?_append_left (by rw [mkl_len]; exact hlk), mkl_get _ _ _ hlk]
                  subst hA'
                  unfold mkT tl at hcb
                  clear hb hA
                  go_wp2
                  go_roundw
                  case rel => exact ⟨k + 1, by omega, by go_num, HW.out⟩
                  case measure => simp [intI]; omega
                · obtain rfl : k = n := by omega
                  go_wp2
                  go_roundw
                  case rel => exact ⟨p + 1, by omega, by go_num, HW.out⟩
                  case measure => simp [intI]; omega
            · obtain rfl : p = j := by omega
              go_wp2
              go_ret
              obtain ⟨mm, e⟩ := HW.out
              exact ⟨rfl, by rw [e]; exact HFR.out.drewN _⟩
end Go.Proofs.YtafjnkmfebibfaaDoor
