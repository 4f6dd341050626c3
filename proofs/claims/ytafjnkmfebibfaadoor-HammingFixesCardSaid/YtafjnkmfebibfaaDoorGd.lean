/- The document's Fix: its walk. -/
import Derived.Test.YtafjnkmfebibfaaDoorGc
import Derived.Deep.DeepCutAuto
import Derived.Deep.CutBlock
namespace Go.Proofs.YtafjnkmfebibfaaDoor
open Go.RowKit
set_option linter.unusedVariables false
set_option linter.unusedSimpArgs false
set_option maxHeartbeats 3200000 in
theorem rFix_any (A : Option Addr) (n cap : Nat) (l : List UInt8) (g : Nat) (l' : List UInt8) (g' : Nat) (k e : Int) (w : World) (hl : l.length = n) (hn : n = 256) (hr : Rd w A (u8s l)) (hg : g < 16777216) (hf : FixIs l g l' g' k e) :
    Calls Tryd.prog 8 #[.slice A n cap, tri g] w fun x w' => ∃ A' c', x = .returned (.tuple #[.slice A' l'.length c', tri g', .int .i64 k, .int .i64 e]) ∧ Rd w' A' (u8s l') ∧ Below w.heap.size w w' ∧ (A' = A ∨ ∀ ad, A' = some ad → w.heap.size ≤ ad.block) := by
  have HL := Lib.hid hl
  have HN := Lib.hid hn
  clear hl
  have hnn : ((n : Nat) : Int) = 256 := by omega
  have hn2 : n ≤ 256 := by omega
  clear hn
  have hsl := sumN_lt l
  have hof := i64_xor_nat g (sumN l) (by omega) (by omega)
  have hol : g ^^^ sumN l < 16777216 := Nat.xor_lt_two_pow (n := 24) hg hsl
  obtain ⟨off, hoff⟩ : ∃ off, off = g ^^^ sumN l := ⟨_, rfl⟩
  unfold FixIs at hf
  rw [← hoff] at hf hof hol
  have HO := Lib.hid hoff
  clear hoff
  obtain ⟨a, b, c, ha, hb, hc, hgg, hx⟩ := tri_parts g hg
  have hgi : (g : Int) = (a : Int) + (b : Int) * 256 + (c : Int) * 65536 := by omega
  rw [hgi] at hof
  have HGI := Lib.hid hgi
  have HGG := Lib.hid hgg
  clear hgi hgg
  obtain ⟨w2, hw2⟩ : ∃ w2, w2 = (w.alloc (.cells #[.int .u8 (a : Int), .int .u8 (b : Int), .int .u8 (c : Int)] 23)).alloc (.cells #[.int .u8 0, .int .u8 0, .int .u8 0] 23) := ⟨_, rfl⟩
  have hB : Below w.heap.size w w2 := by rw [hw2]; exact ((Below.refl _ w).alloc (Nat.le_refl _) _).alloc (by simp) _
  have hbg : Blk w2 w.heap.size 23 [.int .u8 (a : Int), .int .u8 (b : Int), .int .u8 (c : Int)] := by rw [hw2]; exact (Blk.new w _ [.int .u8 (a : Int), .int .u8 (b : Int), .int .u8 (c : Int)]).alloc _
  have hbt : Blk w2 (w.heap.size + 1) 23 [.int .u8 0, .int .u8 0, .int .u8 0] := by
    have h := Blk.new (w.alloc (.cells #[.int .u8 (a : Int), .int .u8 (b : Int), .int .u8 (c : Int)] 23)) 23 [.int .u8 0, .int .u8 0, .int .u8 0]
    rw [World.size_alloc] at h
    rw [hw2]; exact h
  have htri : tri g = .agg #[.int .u8 (a : Int), .int .u8 (b : Int), .int .u8 (c : Int)] := by unfold tri; rw [hx]
  rw [htri]
  have hr2 := hr.below hB
  have hsm := fun wx hr' => sumR_any A n cap l wx HL.out HN.out hr'
  have HR := Lib.hid hr
  clear hx hr
  go_enter Tryd.func8, Tryd.ntmps8
  go_wp2_with (go_at_call 19; fail)
  rw [← hw2]
  have hsz := hB.size
  obtain ⟨G, hG⟩ : ∃ G, G = w.heap.size := ⟨_, rfl⟩
  rw [← hG] at hbg hbt ⊢
  have HG := Lib.hid hG
  clear hw2 hG
  with_reducible refine (hsm _ hr2).mono ?_
  rintro e0 w' ⟨rfl, rfl⟩
  have c0 : w2.cell? ⟨G, 0, none⟩ = some (.int .u8 (a : Int)) := by rw [hbg.cell]; rfl
  have c1 : w2.cell? ⟨G, 1, none⟩ = some (.int .u8 (b : Int)) := by rw [hbg.cell]; rfl
  have c2 : w2.cell? ⟨G, 2, none⟩ = some (.int .u8 (c : Int)) := by rw [hbg.cell]; rfl
  have t0 : w2.cell? ⟨G + 1, 0, none⟩ = some (.int .u8 0) := by rw [hbt.cell]; rfl
  have t1 : w2.cell? ⟨G + 1, 1, none⟩ = some (.int .u8 0) := by rw [hbt.cell]; rfl
  have t2 : w2.cell? ⟨G + 1, 2, none⟩ = some (.int .u8 0) := by rw [hbt.cell]; rfl
  have z0 := hbt.frozen 0
  have z1 := hbt.frozen 1
  have z2 := hbt.frozen 2
  have hne : G ≠ G + 1 := by omega
  have fin : ∀ (y0 y1 y2 : Int) (wq : World), Blk wq (G + 1) 23 [.int .u8 0, .int .u8 0, .int .u8 0] → Below w.heap.size w wq →
      Blk (((wq.setCell ⟨G + 1, 0, none⟩ (.int .u8 y0)).setCell ⟨G + 1, 1, none⟩ (.int .u8 y1)).setCell ⟨G + 1, 2, none⟩ (.int .u8 y2)) (G + 1) 23 [.int .u8 y0, .int .u8 y1, .int .u8 y2] ∧
      Below w.heap.size w (((wq.setCell ⟨G + 1, 0, none⟩ (.int .u8 y0)).setCell ⟨G + 1, 1, none⟩ (.int .u8 y1)).setCell ⟨G + 1, 2, none⟩ (.int .u8 y2)) := fun y0 y1 y2 wq h1 h2 => by
    obtain ⟨h3, h4, _⟩ := fin3 y0 y1 y2 h1 h2 (by have := HG.out; omega) (v1 := .slice none 0 0) (n := 0) (xs := []) (sp := []) (.inl ⟨rfl, rfl, rfl, rfl⟩) (fun q hq => by cases hq)
    exact ⟨h3, h4⟩
  have FIN := Lib.hid fin
  clear fin
  rcases hf with ⟨h0, rfl, rfl, rfl, rfl⟩ | ⟨j, hj, h0, rfl, rfl, rfl, rfl⟩ | ⟨m, hm, h0, rfl, rfl, rfl, rfl⟩ | ⟨h0, rfl, rfl, rfl, rfl⟩
  · have hz : ((off : Nat) : Int) = 0 := by omega
    clear h0
    go_wp2
    go_region_held3 (fun wx => wx.cell? ⟨G, 0, none⟩ = some (.int .u8 (a : Int)) ∧ wx.cell? ⟨G, 1, none⟩ = some (.int .u8 (b : Int)) ∧ wx.cell? ⟨G, 2, none⟩ = some (.int .u8 (c : Int))) (go_keep) (fail)
    go_wp2
    obtain ⟨b5, B5⟩ := FIN.out a b c w2 hbt hB
    refine bodyPost_ret (results_tctt rfl _ _ (G + 1) 23 #[.int .u8 (a : Int), .int .u8 (b : Int), .int .u8 (c : Int)] (0, 0) _ rfl b5.drew Tryd.underlying23 rfl (by kernel_rfl)) rfl ?_
    exact ⟨A, cap, by rw [HL.out, htri]; rfl, (HR.out.below B5).drew, ⟨B5.os, B5.tape, B5.output, B5.size, B5.block⟩, .inl rfl⟩
  · have hone := fun wx => one_any off hol wx
    have hz : ¬ ((off : Nat) : Int) = 0 := by have := Nat.two_pow_pos j; omega
    have hoj : ∀ r, OneIs off r → r = j := fun r h => by rw [h0] at h; exact one_pow j hj r h
    have HOJ := Lib.hid hoj
    have H0 := Lib.hid h0
    have hp2 : (2 : Nat) ^ j ≤ 8388608 := Nat.pow_le_pow_right (n := 2) (i := j) (j := 23) (by decide) (by omega)
    have hxo : Go.bits .xor .i64 ((a : Int) + (b : Int) * 256 + (c : Int) * 65536) (wrap64 (2 ^ j)) = ((g ^^^ 2 ^ j : Nat) : Int) := by
      rw [show ((2 : Int) ^ j) = ((2 ^ j : Nat) : Int) by simp, show wrap64 ((2 ^ j : Nat) : Int) = ((2 ^ j : Nat) : Int) by unfold wrap64; omega, ← HGI.out, i64_xor_nat g (2 ^ j) (by omega) (by omega)]
    have hlt : g ^^^ 2 ^ j < 16777216 := Nat.xor_lt_two_pow (n := 24) hg (by omega)
    obtain ⟨y0, y1, y2, hy⟩ := tri_eq (g ^^^ 2 ^ j)
    have htri2 : tri (g ^^^ 2 ^ j) = .agg #[.int .u8 y0, .int .u8 y1, .int .u8 y2] := by unfold tri; rw [hy]
    have hby := fun wx => bytesR_any (g ^^^ 2 ^ j) (by omega) wx
    rw [htri2] at hby
    have HT2 := Lib.hid htri2
    obtain ⟨gx, hgx⟩ : ∃ gx, gx = g ^^^ 2 ^ j := ⟨_, rfl⟩
    rw [← hgx] at hxo hby
    clear h0 hoj hy htri2 hgx hp2 hlt
    go_wp2_with fail
    with_reducible refine (hone _).mono ?_
    rintro e0 w' ⟨r, rfl, h1, hww⟩
    subst hww
    obtain rfl := HOJ.out r h1
    clear h1 hone HOJ
    go_wp2_with (go_at_call 21; fail)
    with_reducible refine (hby _).mono ?_
    rintro e0 w5 ⟨rfl, b5⟩
    replace hbt := hbt.frm (ex := fun _ => False) (Frm.of_below b5) id
    replace hB := hB.trans (b5.mono hB.size)
    have t0 : w5.cell? ⟨G + 1, 0, none⟩ = some (.int .u8 0) := by rw [hbt.cell]; rfl
    have t1 : w5.cell? ⟨G + 1, 1, none⟩ = some (.int .u8 0) := by rw [hbt.cell]; rfl
    have t2 : w5.cell? ⟨G + 1, 2, none⟩ = some (.int .u8 0) := by rw [hbt.cell]; rfl
    have z0 := hbt.frozen 0
    have z1 := hbt.frozen 1
    have z2 := hbt.frozen 2
    clear b5 hxo
    go_wp2
    obtain ⟨b5, B5⟩ := FIN.out y0 y1 y2 w5 hbt hB
    refine bodyPost_ret (results_tctt rfl _ _ (G + 1) 23 #[.int .u8 y0, .int .u8 y1, .int .u8 y2] (0, 0) _ rfl b5 Tryd.underlying23 rfl (by kernel_rfl)) rfl ?_
    exact ⟨A, cap, by rw [HL.out, HT2.out]; rfl, HR.out.below B5, B5, .inl rfl⟩
  · have hone := fun wx => one_any off hol wx
    have hpl := fun wx => place_any off hol wx
    have hz : ¬ ((off : Nat) : Int) = 0 := by have := (E_parts m hm).1; omega
    have hoj : ∀ r, OneIs off r → r = -1 := fun r h => by rw [h0] at h; exact one_E m hm r h
    have hpj : ∀ r, PlaceIs off r → r = m := fun r h => by rw [h0] at h; exact place_E m hm r h
    have hTd := fun wx hr' => Turned_any A n cap l m wx HL.out hr' (by have := HN.out; omega) (by omega)
    have HOJ := Lib.hid hoj
    have HPJ := Lib.hid hpj
    have HTD := Lib.hid hTd
    clear h0 hoj hpj hTd
    go_wp2_with fail
    with_reducible refine (hone _).mono ?_
    rintro e0 w' ⟨r, rfl, h1, hww⟩
    subst hww
    obtain rfl := HOJ.out r h1
    clear h1 hone HOJ
    go_wp2_with fail
    with_reducible refine (hpl _).mono ?_
    rintro e0 w'' ⟨r, rfl, h1, hww⟩
    subst hww
    obtain rfl := HPJ.out r h1
    clear h1 hpl HPJ
    go_upto_region 12 with fail
    have hBd : Below w.heap.size w w''.drew := bel_drew hB
    have hRd : Rd w''.drew A (u8s l) := HR.out.below hBd
    have hgd : Blk w''.drew G 23 [.int .u8 (a : Int), .int .u8 (b : Int), .int .u8 (c : Int)] := hbg
    have htd : Blk w''.drew (G + 1) 23 [.int .u8 0, .int .u8 0, .int .u8 0] := hbt
    have hsd : w''.drew.heap.size = w''.heap.size := rfl
    go_region_held3 (fun wx => wx.cell? ⟨G, 0, none⟩ = some (.int .u8 (a : Int)) ∧ wx.cell? ⟨G, 1, none⟩ = some (.int .u8 (b : Int)) ∧ wx.cell? ⟨G, 2, none⟩ = some (.int .u8 (c : Int))) (first | exact cells3 (by assumption) | exact cells3 (far3 _ _ _ (by assumption) (by assumption)) | go_keep) (first
      | (go_at_call 23; (with_reducible refine (HTD.out _ hRd).mono ?_); rintro e w5 ⟨v5, sp5, rfl, o5, f5, b5⟩; have g5 := hgd.bel b5; have k5 := htd.bel b5; have q5 := hBd.trans (b5.mono hBd.size); obtain ⟨t0, t1, t2⟩ := cells3 k5; have z0 := k5.frozen 0; have z1 := k5.frozen 1; have z2 := k5.frozen 2; dsimp only))
    all_goals
      (obtain ⟨b6, B6, o6⟩ := fin3 (a : Int) (b : Int) (c : Int) k5 q5 (by have := HG.out; omega) o5 (fun q hq => by have h1 := f5 q hq; have h2 := hbt.lt; rw [hsd] at h1; omega)
       obtain ⟨A5, c5, rfl, _, r6⟩ := o6.rd
       go_wp2
       refine bodyPost_ret (results_tctt rfl _ _ (G + 1) 23 #[.int .u8 (a : Int), .int .u8 (b : Int), .int .u8 (c : Int)] (0, 0) _ rfl b6 Tryd.underlying23 rfl (by kernel_rfl)) rfl ?_
       exact ⟨A5, c5, by rw [flipB_len, HL.out, htri]; rfl, r6, B6, .inr (fun ad h => by subst h; have h1 := f5 ad.block rfl; have h2 := hB.size; rw [hsd] at h1; omega)⟩)
  · have hone := fun wx => one_any off hol wx
    have hpl := fun wx => place_any off hol wx
    have hz : ¬ ((off : Nat) : Int) = 0 := by
      intro h
      have : off = 0 := by omega
      rw [this] at h0
      exact absurd h0 (by decide)
    have hoj : ∀ r, OneIs off r → r = -1 := fun r h => one_bad off hol h0 r h
    have hpj : ∀ r, PlaceIs off r → r = -1 := fun r h => place_bad off hol h0 r h
    have HOJ := Lib.hid hoj
    have HPJ := Lib.hid hpj
    clear h0 hoj hpj
    go_wp2_with fail
    with_reducible refine (hone _).mono ?_
    rintro e0 w' ⟨r, rfl, h1, hww⟩
    subst hww
    obtain rfl := HOJ.out r h1
    clear h1 hone HOJ
    go_wp2_with fail
    with_reducible refine (hpl _).mono ?_
    rintro e0 w'' ⟨r, rfl, h1, hww⟩
    subst hww
    obtain rfl := HPJ.out r h1
    clear h1 hpl HPJ
    go_wp2
    obtain ⟨b5, B5⟩ := FIN.out 0 0 0 _ hbt hB
    refine bodyPost_ret (results_tctt rfl _ _ (G + 1) 23 #[.int .u8 0, .int .u8 0, .int .u8 0] (0, 0) _ rfl b5 Tryd.underlying23 rfl (by kernel_rfl)) rfl ?_
    exact ⟨none, 0, rfl, Rd.nil _ _, B5, .inr (fun ad h => by cases h)⟩
end Go.Proofs.YtafjnkmfebibfaaDoor
