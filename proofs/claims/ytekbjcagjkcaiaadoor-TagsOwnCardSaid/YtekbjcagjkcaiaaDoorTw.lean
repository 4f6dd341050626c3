/- The document's Pack: tags as bytes. -/
import Derived.Test.YtekbjcagjkcaiaaDoorTv
import Derived.Test.YtekbjcagjkcaiaaDoorTp
namespace Go.Proofs.YtekbjcagjkcaiaaDoor
open Go.RowKit
set_option linter.unusedVariables false
set_option linter.unusedSimpArgs false
def RPackP (x0 x1 x2 x3 x4 x5 x6 x7 : Int) (w : World) (e : Ending) (w' : World) : Prop :=
  (∃ v0 v1 v2 v3 v4 v5 v6 v7 : Nat, (x0 = v0 ∧ x1 = v1 ∧ x2 = v2 ∧ x3 = v3 ∧ x4 = v4 ∧ x5 = v5 ∧ x6 = v6 ∧ x7 = v7) ∧ FitV v0 v1 v2 v3 v4 v5 v6 v7 ∧ ∃ A c, e = .returned (.tuple #[.slice A 26 c, .int .i64 0]) ∧ Rd w' A (u8s (packB v0 v1 v2 v3 v4 v5 v6 v7)) ∧ Below w.heap.size w w') ∨
  (¬ FitI x0 x1 x2 x3 x4 x5 x6 x7 ∧ e = .returned (.tuple #[.slice none 0 0, .int .i64 61]) ∧ Below w.heap.size w w')
theorem low_lit (v n : Nat) (x : Int) (hx : x = n) (hv : v < 18446744073709551616) (hn : n ≤ 8) (w : World) :
    Calls Tryd.prog 32 #[.int .u64 (v : Int), .int .i64 x] w fun e w' => ∃ A c sp, e = .returned (.slice A n c) ∧ Owx w' 5 1 (.slice A n c) n (u8s (leb v n)) sp ∧ (∀ q, (Value.slice A n c).ownBlock = some q → w.heap.size ≤ q) ∧ Below w.heap.size w w' := by
  subst hx
  exact low_any v n hv hn w
theorem own_ne {w : World} {t u : TypeId} {v : Value} {n g : Nat} {xs sp cs : List Value} (h : Owx w t 1 v n xs sp) (hne : t ≠ u) (hg : v.ownBlock = some g) (hb : Blk w g u cs) : False := by
  rcases h with ⟨e, _⟩ | ⟨q, cap, e, hb2, _⟩
  · rw [e] at hg; cases hg
  · rw [e] at hg; cases hg
    unfold Blk at hb hb2
    rw [hb] at hb2
    injection hb2 with hb2
    injection hb2 with _ ht
    exact hne ht.symm
theorem wrap_n (v : Nat) (h : v < 18446744073709551616) : IntKind.u64.wrap (v : Int) = (v : Int) := by rw [IntKind.wrap_u64]; omega
set_option maxRecDepth 100000 in
set_option maxHeartbeats 6400000 in
theorem rPack_ok (v0 v1 v2 v3 v4 v5 v6 v7 : Nat) (hv : FitV v0 v1 v2 v3 v4 v5 v6 v7) (w : World) :
    Calls Tryd.prog 18 #[.agg #[.int .i64 (v0 : Int), .int .i64 (v1 : Int), .int .u64 (v2 : Int), .int .u64 (v3 : Int), .int .i64 (v4 : Int), .int .i64 (v5 : Int), .int .i64 (v6 : Int), .int .i64 (v7 : Int)]] w fun e w' => ∃ A c, e = .returned (.tuple #[.slice A 26 c, .int .i64 0]) ∧ Rd w' A (u8s (packB v0 v1 v2 v3 v4 v5 v6 v7)) ∧ Below w.heap.size w w' := by
  unfold FitV at hv
  obtain ⟨w1, hw1⟩ : ∃ x, x = w.alloc (.cells #[.int .i64 (v0 : Int), .int .i64 (v1 : Int), .int .u64 (v2 : Int), .int .u64 (v3 : Int), .int .i64 (v4 : Int), .int .i64 (v5 : Int), .int .i64 (v6 : Int), .int .i64 (v7 : Int)] 25) := ⟨_, rfl⟩
  have b : Below w.heap.size w w1 := by rw [hw1]; exact (Below.refl _ w).alloc (Nat.le_refl _) _
  have hsz := b.size
  have kt : Blk w1 w.heap.size 25 [.int .i64 (v0 : Int), .int .i64 (v1 : Int), .int .u64 (v2 : Int), .int .u64 (v3 : Int), .int .i64 (v4 : Int), .int .i64 (v5 : Int), .int .i64 (v6 : Int), .int .i64 (v7 : Int)] := by rw [hw1]; exact Blk.new w _ _
  obtain ⟨G, hG⟩ : ∃ G, G = w.heap.size := ⟨_, rfl⟩
  have HG := Lib.hid hG
  rw [← hG] at kt b hsz ⊢
  have l0 := low_lit v0 1 1 rfl (by omega) (by decide)
  have l1 := low_lit v1 1 1 rfl (by omega) (by decide)
  have l2 := low_lit v2 6 6 rfl (by omega) (by decide)
  have l3 := low_lit v3 6 6 rfl (by omega) (by decide)
  have l4 := low_lit v4 4 4 rfl (by omega) (by decide)
  have l5 := low_lit v5 4 4 rfl (by omega) (by decide)
  have l6 := low_lit v6 2 2 rfl (by omega) (by decide)
  have l7 := low_lit v7 2 2 rfl (by omega) (by decide)
  have q0 := wrap_n v0 (by omega)
  have q1 := wrap_n v1 (by omega)
  have q4 := wrap_n v4 (by omega)
  have q5 := wrap_n v5 (by omega)
  have q6 := wrap_n v6 (by omega)
  have q7 := wrap_n v7 (by omega)
  have p0 : (0 : Int) ≤ (v0 : Int) ∧ (v0 : Int) ≤ 255 := by omega
  have p1 : (0 : Int) ≤ (v1 : Int) ∧ (v1 : Int) ≤ 255 := by omega
  have p2 : (0 : Int) ≤ (v2 : Int) ∧ (v2 : Int) ≤ 281474976710655 := by omega
  have p3 : (0 : Int) ≤ (v3 : Int) ∧ (v3 : Int) ≤ 281474976710655 := by omega
  have p4 : (0 : Int) ≤ (v4 : Int) ∧ (v4 : Int) ≤ 4294967295 := by omega
  have p5 : (0 : Int) ≤ (v5 : Int) ∧ (v5 : Int) ≤ 4294967295 := by omega
  have p6 : (0 : Int) ≤ (v6 : Int) ∧ (v6 : Int) ≤ 65535 := by omega
  have p7 : (0 : Int) ≤ (v7 : Int) ∧ (v7 : Int) ≤ 65535 := by omega
  go_enter Tryd.func18, Tryd.ntmps18
  go_upto_region 1 with fail
  rw [← hw1, ← hG]
  clear hw1 hG hv
  have c0 : w1.cell? ⟨G, 0, none⟩ = some (.int .i64 (v0 : Int)) := kt.cell 0
  have c1 : w1.cell? ⟨G, 1, none⟩ = some (.int .i64 (v1 : Int)) := kt.cell 1
  have c2 : w1.cell? ⟨G, 2, none⟩ = some (.int .u64 (v2 : Int)) := kt.cell 2
  have c3 : w1.cell? ⟨G, 3, none⟩ = some (.int .u64 (v3 : Int)) := kt.cell 3
  have c4 : w1.cell? ⟨G, 4, none⟩ = some (.int .i64 (v4 : Int)) := kt.cell 4
  have c5 : w1.cell? ⟨G, 5, none⟩ = some (.int .i64 (v5 : Int)) := kt.cell 5
  have c6 : w1.cell? ⟨G, 6, none⟩ = some (.int .i64 (v6 : Int)) := kt.cell 6
  have c7 : w1.cell? ⟨G, 7, none⟩ = some (.int .i64 (v7 : Int)) := kt.cell 7
  have n2 : ¬ (281474976710655 : Int) < (v2 : Int) := by omega
  have n3 : ¬ (281474976710655 : Int) < (v3 : Int) := by omega
  go_upto_region 5 with (go_at_call 31; (with_reducible refine (fits_yes _ _ (by omega) (by omega) _).mono ?_); rintro e w' ⟨rfl, rfl⟩)
  clear n2 n3 p0 p1 p2 p3 p4 p5 p6 p7
  go_wp2_with fail
  with_reducible refine (l0 _).mono ?_
  rintro e w2 ⟨A0, k0, sp, rfl, ol, fl, b2⟩
  clear l0 c0 c1 c2 c3 c4 c5 c6 c7
  replace kt := kt.frm (ex := fun _ => False) (Frm.of_below b2) id
  have c0 : w2.cell? ⟨G, 0, none⟩ = some (.int .i64 (v0 : Int)) := kt.cell 0
  have c1 : w2.cell? ⟨G, 1, none⟩ = some (.int .i64 (v1 : Int)) := kt.cell 1
  have c2 : w2.cell? ⟨G, 2, none⟩ = some (.int .u64 (v2 : Int)) := kt.cell 2
  have c3 : w2.cell? ⟨G, 3, none⟩ = some (.int .u64 (v3 : Int)) := kt.cell 3
  have c4 : w2.cell? ⟨G, 4, none⟩ = some (.int .i64 (v4 : Int)) := kt.cell 4
  have c5 : w2.cell? ⟨G, 5, none⟩ = some (.int .i64 (v5 : Int)) := kt.cell 5
  have c6 : w2.cell? ⟨G, 6, none⟩ = some (.int .i64 (v6 : Int)) := kt.cell 6
  have c7 : w2.cell? ⟨G, 7, none⟩ = some (.int .i64 (v7 : Int)) := kt.cell 7
  have o := ol
  have f : ∀ q, (Value.slice A0 1 k0).ownBlock = some q → G ≤ q := fun q hq => Nat.le_trans hsz (fl q hq)
  replace b := b.trans (b2.mono hsz)
  replace hsz := Nat.le_trans hsz b2.size
  clear ol fl b2
  go_upto_region 6 with fail
  go_wp2_with fail
  with_reducible refine (l1 _).mono ?_
  rintro e w3 ⟨A1, k1, sp, rfl, ol, fl, b2⟩
  clear l1 c0 c1 c2 c3 c4 c5 c6 c7
  replace kt := kt.frm (ex := fun _ => False) (Frm.of_below b2) id
  have c0 : w3.cell? ⟨G, 0, none⟩ = some (.int .i64 (v0 : Int)) := kt.cell 0
  have c1 : w3.cell? ⟨G, 1, none⟩ = some (.int .i64 (v1 : Int)) := kt.cell 1
  have c2 : w3.cell? ⟨G, 2, none⟩ = some (.int .u64 (v2 : Int)) := kt.cell 2
  have c3 : w3.cell? ⟨G, 3, none⟩ = some (.int .u64 (v3 : Int)) := kt.cell 3
  have c4 : w3.cell? ⟨G, 4, none⟩ = some (.int .i64 (v4 : Int)) := kt.cell 4
  have c5 : w3.cell? ⟨G, 5, none⟩ = some (.int .i64 (v5 : Int)) := kt.cell 5
  have c6 : w3.cell? ⟨G, 6, none⟩ = some (.int .i64 (v6 : Int)) := kt.cell 6
  have c7 : w3.cell? ⟨G, 7, none⟩ = some (.int .i64 (v7 : Int)) := kt.cell 7
  replace o := o.bel b2
  replace b := b.trans (b2.mono hsz)
  replace hsz := Nat.le_trans hsz b2.size
  obtain ⟨_, _, er, _, rl⟩ := ol.rd
  cases er
  go_wp2_with (at_builtin; refine wpList_appx _ rfl (.tmp 51) (.tmp 55) 22 rfl 5 _ 1 1 Tryd.underlying22 info5 rfl (by decide) rfl o rfl (by rw [u8s_length, leb_len]) rl (one_u8s _) (by unfold maxLen; omega) (by omega) ?_; intro v9 w4 sp9 o9 y9; rw [← u8s_append] at o9; have f9 := fresh_app (B := G) hsz f y9.at_; have bb := below_frm b hsz y9.frm (fun q hq => f q hq); have tt := kt.frm y9.frm (fun hq => own_ne o (by decide) hq kt); obtain ⟨B1, d1, rfl, _, _⟩ := o9.rd; replace hsz := Nat.le_trans hsz y9.frm.size; clear o f b kt y9 ol fl b2 rl c0 c1 c2 c3 c4 c5 c6 c7; have o := o9; have f := f9; have b := bb; have kt := tt; clear o9 f9 bb tt; have c0 : w4.cell? ⟨G, 0, none⟩ = some (.int .i64 (v0 : Int)) := kt.cell 0; have c1 : w4.cell? ⟨G, 1, none⟩ = some (.int .i64 (v1 : Int)) := kt.cell 1; have c2 : w4.cell? ⟨G, 2, none⟩ = some (.int .u64 (v2 : Int)) := kt.cell 2; have c3 : w4.cell? ⟨G, 3, none⟩ = some (.int .u64 (v3 : Int)) := kt.cell 3; have c4 : w4.cell? ⟨G, 4, none⟩ = some (.int .i64 (v4 : Int)) := kt.cell 4; have c5 : w4.cell? ⟨G, 5, none⟩ = some (.int .i64 (v5 : Int)) := kt.cell 5; have c6 : w4.cell? ⟨G, 6, none⟩ = some (.int .i64 (v6 : Int)) := kt.cell 6; have c7 : w4.cell? ⟨G, 7, none⟩ = some (.int .i64 (v7 : Int)) := kt.cell 7)
  with_reducible refine (l2 _).mono ?_
  rintro e w5 ⟨A2, k2, sp, rfl, ol, fl, b2⟩
  clear l2 c0 c1 c2 c3 c4 c5 c6 c7
  replace kt := kt.frm (ex := fun _ => False) (Frm.of_below b2) id
  have c0 : w5.cell? ⟨G, 0, none⟩ = some (.int .i64 (v0 : Int)) := kt.cell 0
  have c1 : w5.cell? ⟨G, 1, none⟩ = some (.int .i64 (v1 : Int)) := kt.cell 1
  have c2 : w5.cell? ⟨G, 2, none⟩ = some (.int .u64 (v2 : Int)) := kt.cell 2
  have c3 : w5.cell? ⟨G, 3, none⟩ = some (.int .u64 (v3 : Int)) := kt.cell 3
  have c4 : w5.cell? ⟨G, 4, none⟩ = some (.int .i64 (v4 : Int)) := kt.cell 4
  have c5 : w5.cell? ⟨G, 5, none⟩ = some (.int .i64 (v5 : Int)) := kt.cell 5
  have c6 : w5.cell? ⟨G, 6, none⟩ = some (.int .i64 (v6 : Int)) := kt.cell 6
  have c7 : w5.cell? ⟨G, 7, none⟩ = some (.int .i64 (v7 : Int)) := kt.cell 7
  replace o := o.bel b2
  replace b := b.trans (b2.mono hsz)
  replace hsz := Nat.le_trans hsz b2.size
  obtain ⟨_, _, er, _, rl⟩ := ol.rd
  cases er
  go_wp2_with (at_builtin; refine wpList_appx _ rfl (.tmp 57) (.tmp 60) 22 rfl 5 _ 1 1 Tryd.underlying22 info5 rfl (by decide) rfl o rfl (by rw [u8s_length, leb_len]) rl (one_u8s _) (by unfold maxLen; omega) (by omega) ?_; intro v9 w6 sp9 o9 y9; rw [← u8s_append] at o9; have f9 := fresh_app (B := G) hsz f y9.at_; have bb := below_frm b hsz y9.frm (fun q hq => f q hq); have tt := kt.frm y9.frm (fun hq => own_ne o (by decide) hq kt); obtain ⟨B2, d2, rfl, _, _⟩ := o9.rd; replace hsz := Nat.le_trans hsz y9.frm.size; clear o f b kt y9 ol fl b2 rl c0 c1 c2 c3 c4 c5 c6 c7; have o := o9; have f := f9; have b := bb; have kt := tt; clear o9 f9 bb tt; have c0 : w6.cell? ⟨G, 0, none⟩ = some (.int .i64 (v0 : Int)) := kt.cell 0; have c1 : w6.cell? ⟨G, 1, none⟩ = some (.int .i64 (v1 : Int)) := kt.cell 1; have c2 : w6.cell? ⟨G, 2, none⟩ = some (.int .u64 (v2 : Int)) := kt.cell 2; have c3 : w6.cell? ⟨G, 3, none⟩ = some (.int .u64 (v3 : Int)) := kt.cell 3; have c4 : w6.cell? ⟨G, 4, none⟩ = some (.int .i64 (v4 : Int)) := kt.cell 4; have c5 : w6.cell? ⟨G, 5, none⟩ = some (.int .i64 (v5 : Int)) := kt.cell 5; have c6 : w6.cell? ⟨G, 6, none⟩ = some (.int .i64 (v6 : Int)) := kt.cell 6; have c7 : w6.cell? ⟨G, 7, none⟩ = some (.int .i64 (v7 : Int)) := kt.cell 7)
  with_reducible refine (l3 _).mono ?_
  rintro e w7 ⟨A3, k3, sp, rfl, ol, fl, b2⟩
  clear l3 c0 c1 c2 c3 c4 c5 c6 c7
  replace kt := kt.frm (ex := fun _ => False) (Frm.of_below b2) id
  have c0 : w7.cell? ⟨G, 0, none⟩ = some (.int .i64 (v0 : Int)) := kt.cell 0
  have c1 : w7.cell? ⟨G, 1, none⟩ = some (.int .i64 (v1 : Int)) := kt.cell 1
  have c2 : w7.cell? ⟨G, 2, none⟩ = some (.int .u64 (v2 : Int)) := kt.cell 2
  have c3 : w7.cell? ⟨G, 3, none⟩ = some (.int .u64 (v3 : Int)) := kt.cell 3
  have c4 : w7.cell? ⟨G, 4, none⟩ = some (.int .i64 (v4 : Int)) := kt.cell 4
  have c5 : w7.cell? ⟨G, 5, none⟩ = some (.int .i64 (v5 : Int)) := kt.cell 5
  have c6 : w7.cell? ⟨G, 6, none⟩ = some (.int .i64 (v6 : Int)) := kt.cell 6
  have c7 : w7.cell? ⟨G, 7, none⟩ = some (.int .i64 (v7 : Int)) := kt.cell 7
  replace o := o.bel b2
  replace b := b.trans (b2.mono hsz)
  replace hsz := Nat.le_trans hsz b2.size
  obtain ⟨_, _, er, _, rl⟩ := ol.rd
  cases er
  go_wp2_with (at_builtin; refine wpList_appx _ rfl (.tmp 62) (.tmp 65) 22 rfl 5 _ 1 1 Tryd.underlying22 info5 rfl (by decide) rfl o rfl (by rw [u8s_length, leb_len]) rl (one_u8s _) (by unfold maxLen; omega) (by omega) ?_; intro v9 w8 sp9 o9 y9; rw [← u8s_append] at o9; have f9 := fresh_app (B := G) hsz f y9.at_; have bb := below_frm b hsz y9.frm (fun q hq => f q hq); have tt := kt.frm y9.frm (fun hq => own_ne o (by decide) hq kt); obtain ⟨B3, d3, rfl, _, _⟩ := o9.rd; replace hsz := Nat.le_trans hsz y9.frm.size; clear o f b kt y9 ol fl b2 rl c0 c1 c2 c3 c4 c5 c6 c7; have o := o9; have f := f9; have b := bb; have kt := tt; clear o9 f9 bb tt; have c0 : w8.cell? ⟨G, 0, none⟩ = some (.int .i64 (v0 : Int)) := kt.cell 0; have c1 : w8.cell? ⟨G, 1, none⟩ = some (.int .i64 (v1 : Int)) := kt.cell 1; have c2 : w8.cell? ⟨G, 2, none⟩ = some (.int .u64 (v2 : Int)) := kt.cell 2; have c3 : w8.cell? ⟨G, 3, none⟩ = some (.int .u64 (v3 : Int)) := kt.cell 3; have c4 : w8.cell? ⟨G, 4, none⟩ = some (.int .i64 (v4 : Int)) := kt.cell 4; have c5 : w8.cell? ⟨G, 5, none⟩ = some (.int .i64 (v5 : Int)) := kt.cell 5; have c6 : w8.cell? ⟨G, 6, none⟩ = some (.int .i64 (v6 : Int)) := kt.cell 6; have c7 : w8.cell? ⟨G, 7, none⟩ = some (.int .i64 (v7 : Int)) := kt.cell 7)
  with_reducible refine (l4 _).mono ?_
  rintro e w9 ⟨A4, k4, sp, rfl, ol, fl, b2⟩
  clear l4 c0 c1 c2 c3 c4 c5 c6 c7
  replace kt := kt.frm (ex := fun _ => False) (Frm.of_below b2) id
  have c0 : w9.cell? ⟨G, 0, none⟩ = some (.int .i64 (v0 : Int)) := kt.cell 0
  have c1 : w9.cell? ⟨G, 1, none⟩ = some (.int .i64 (v1 : Int)) := kt.cell 1
  have c2 : w9.cell? ⟨G, 2, none⟩ = some (.int .u64 (v2 : Int)) := kt.cell 2
  have c3 : w9.cell? ⟨G, 3, none⟩ = some (.int .u64 (v3 : Int)) := kt.cell 3
  have c4 : w9.cell? ⟨G, 4, none⟩ = some (.int .i64 (v4 : Int)) := kt.cell 4
  have c5 : w9.cell? ⟨G, 5, none⟩ = some (.int .i64 (v5 : Int)) := kt.cell 5
  have c6 : w9.cell? ⟨G, 6, none⟩ = some (.int .i64 (v6 : Int)) := kt.cell 6
  have c7 : w9.cell? ⟨G, 7, none⟩ = some (.int .i64 (v7 : Int)) := kt.cell 7
  replace o := o.bel b2
  replace b := b.trans (b2.mono hsz)
  replace hsz := Nat.le_trans hsz b2.size
  obtain ⟨_, _, er, _, rl⟩ := ol.rd
  cases er
  go_wp2_with (at_builtin; refine wpList_appx _ rfl (.tmp 67) (.tmp 71) 22 rfl 5 _ 1 1 Tryd.underlying22 info5 rfl (by decide) rfl o rfl (by rw [u8s_length, leb_len]) rl (one_u8s _) (by unfold maxLen; omega) (by omega) ?_; intro v9 w10 sp9 o9 y9; rw [← u8s_append] at o9; have f9 := fresh_app (B := G) hsz f y9.at_; have bb := below_frm b hsz y9.frm (fun q hq => f q hq); have tt := kt.frm y9.frm (fun hq => own_ne o (by decide) hq kt); obtain ⟨B4, d4, rfl, _, _⟩ := o9.rd; replace hsz := Nat.le_trans hsz y9.frm.size; clear o f b kt y9 ol fl b2 rl c0 c1 c2 c3 c4 c5 c6 c7; have o := o9; have f := f9; have b := bb; have kt := tt; clear o9 f9 bb tt; have c0 : w10.cell? ⟨G, 0, none⟩ = some (.int .i64 (v0 : Int)) := kt.cell 0; have c1 : w10.cell? ⟨G, 1, none⟩ = some (.int .i64 (v1 : Int)) := kt.cell 1; have c2 : w10.cell? ⟨G, 2, none⟩ = some (.int .u64 (v2 : Int)) := kt.cell 2; have c3 : w10.cell? ⟨G, 3, none⟩ = some (.int .u64 (v3 : Int)) := kt.cell 3; have c4 : w10.cell? ⟨G, 4, none⟩ = some (.int .i64 (v4 : Int)) := kt.cell 4; have c5 : w10.cell? ⟨G, 5, none⟩ = some (.int .i64 (v5 : Int)) := kt.cell 5; have c6 : w10.cell? ⟨G, 6, none⟩ = some (.int .i64 (v6 : Int)) := kt.cell 6; have c7 : w10.cell? ⟨G, 7, none⟩ = some (.int .i64 (v7 : Int)) := kt.cell 7)
  with_reducible refine (l5 _).mono ?_
  rintro e w11 ⟨A5, k5, sp, rfl, ol, fl, b2⟩
  clear l5 c0 c1 c2 c3 c4 c5 c6 c7
  replace kt := kt.frm (ex := fun _ => False) (Frm.of_below b2) id
  have c0 : w11.cell? ⟨G, 0, none⟩ = some (.int .i64 (v0 : Int)) := kt.cell 0
  have c1 : w11.cell? ⟨G, 1, none⟩ = some (.int .i64 (v1 : Int)) := kt.cell 1
  have c2 : w11.cell? ⟨G, 2, none⟩ = some (.int .u64 (v2 : Int)) := kt.cell 2
  have c3 : w11.cell? ⟨G, 3, none⟩ = some (.int .u64 (v3 : Int)) := kt.cell 3
  have c4 : w11.cell? ⟨G, 4, none⟩ = some (.int .i64 (v4 : Int)) := kt.cell 4
  have c5 : w11.cell? ⟨G, 5, none⟩ = some (.int .i64 (v5 : Int)) := kt.cell 5
  have c6 : w11.cell? ⟨G, 6, none⟩ = some (.int .i64 (v6 : Int)) := kt.cell 6
  have c7 : w11.cell? ⟨G, 7, none⟩ = some (.int .i64 (v7 : Int)) := kt.cell 7
  replace o := o.bel b2
  replace b := b.trans (b2.mono hsz)
  replace hsz := Nat.le_trans hsz b2.size
  obtain ⟨_, _, er, _, rl⟩ := ol.rd
  cases er
  go_wp2_with (at_builtin; refine wpList_appx _ rfl (.tmp 73) (.tmp 77) 22 rfl 5 _ 1 1 Tryd.underlying22 info5 rfl (by decide) rfl o rfl (by rw [u8s_length, leb_len]) rl (one_u8s _) (by unfold maxLen; omega) (by omega) ?_; intro v9 w12 sp9 o9 y9; rw [← u8s_append] at o9; have f9 := fresh_app (B := G) hsz f y9.at_; have bb := below_frm b hsz y9.frm (fun q hq => f q hq); have tt := kt.frm y9.frm (fun hq => own_ne o (by decide) hq kt); obtain ⟨B5, d5, rfl, _, _⟩ := o9.rd; replace hsz := Nat.le_trans hsz y9.frm.size; clear o f b kt y9 ol fl b2 rl c0 c1 c2 c3 c4 c5 c6 c7; have o := o9; have f := f9; have b := bb; have kt := tt; clear o9 f9 bb tt; have c0 : w12.cell? ⟨G, 0, none⟩ = some (.int .i64 (v0 : Int)) := kt.cell 0; have c1 : w12.cell? ⟨G, 1, none⟩ = some (.int .i64 (v1 : Int)) := kt.cell 1; have c2 : w12.cell? ⟨G, 2, none⟩ = some (.int .u64 (v2 : Int)) := kt.cell 2; have c3 : w12.cell? ⟨G, 3, none⟩ = some (.int .u64 (v3 : Int)) := kt.cell 3; have c4 : w12.cell? ⟨G, 4, none⟩ = some (.int .i64 (v4 : Int)) := kt.cell 4; have c5 : w12.cell? ⟨G, 5, none⟩ = some (.int .i64 (v5 : Int)) := kt.cell 5; have c6 : w12.cell? ⟨G, 6, none⟩ = some (.int .i64 (v6 : Int)) := kt.cell 6; have c7 : w12.cell? ⟨G, 7, none⟩ = some (.int .i64 (v7 : Int)) := kt.cell 7)
  with_reducible refine (l6 _).mono ?_
  rintro e w13 ⟨A6, k6, sp, rfl, ol, fl, b2⟩
  clear l6 c0 c1 c2 c3 c4 c5 c6 c7
  replace kt := kt.frm (ex := fun _ => False) (Frm.of_below b2) id
  have c0 : w13.cell? ⟨G, 0, none⟩ = some (.int .i64 (v0 : Int)) := kt.cell 0
  have c1 : w13.cell? ⟨G, 1, none⟩ = some (.int .i64 (v1 : Int)) := kt.cell 1
  have c2 : w13.cell? ⟨G, 2, none⟩ = some (.int .u64 (v2 : Int)) := kt.cell 2
  have c3 : w13.cell? ⟨G, 3, none⟩ = some (.int .u64 (v3 : Int)) := kt.cell 3
  have c4 : w13.cell? ⟨G, 4, none⟩ = some (.int .i64 (v4 : Int)) := kt.cell 4
  have c5 : w13.cell? ⟨G, 5, none⟩ = some (.int .i64 (v5 : Int)) := kt.cell 5
  have c6 : w13.cell? ⟨G, 6, none⟩ = some (.int .i64 (v6 : Int)) := kt.cell 6
  have c7 : w13.cell? ⟨G, 7, none⟩ = some (.int .i64 (v7 : Int)) := kt.cell 7
  replace o := o.bel b2
  replace b := b.trans (b2.mono hsz)
  replace hsz := Nat.le_trans hsz b2.size
  obtain ⟨_, _, er, _, rl⟩ := ol.rd
  cases er
  go_wp2_with (at_builtin; refine wpList_appx _ rfl (.tmp 79) (.tmp 83) 22 rfl 5 _ 1 1 Tryd.underlying22 info5 rfl (by decide) rfl o rfl (by rw [u8s_length, leb_len]) rl (one_u8s _) (by unfold maxLen; omega) (by omega) ?_; intro v9 w14 sp9 o9 y9; rw [← u8s_append] at o9; have f9 := fresh_app (B := G) hsz f y9.at_; have bb := below_frm b hsz y9.frm (fun q hq => f q hq); have tt := kt.frm y9.frm (fun hq => own_ne o (by decide) hq kt); obtain ⟨B6, d6, rfl, _, _⟩ := o9.rd; replace hsz := Nat.le_trans hsz y9.frm.size; clear o f b kt y9 ol fl b2 rl c0 c1 c2 c3 c4 c5 c6 c7; have o := o9; have f := f9; have b := bb; have kt := tt; clear o9 f9 bb tt; have c0 : w14.cell? ⟨G, 0, none⟩ = some (.int .i64 (v0 : Int)) := kt.cell 0; have c1 : w14.cell? ⟨G, 1, none⟩ = some (.int .i64 (v1 : Int)) := kt.cell 1; have c2 : w14.cell? ⟨G, 2, none⟩ = some (.int .u64 (v2 : Int)) := kt.cell 2; have c3 : w14.cell? ⟨G, 3, none⟩ = some (.int .u64 (v3 : Int)) := kt.cell 3; have c4 : w14.cell? ⟨G, 4, none⟩ = some (.int .i64 (v4 : Int)) := kt.cell 4; have c5 : w14.cell? ⟨G, 5, none⟩ = some (.int .i64 (v5 : Int)) := kt.cell 5; have c6 : w14.cell? ⟨G, 6, none⟩ = some (.int .i64 (v6 : Int)) := kt.cell 6; have c7 : w14.cell? ⟨G, 7, none⟩ = some (.int .i64 (v7 : Int)) := kt.cell 7)
  with_reducible refine (l7 _).mono ?_
  rintro e w15 ⟨A7, k7, sp, rfl, ol, fl, b2⟩
  clear l7 c0 c1 c2 c3 c4 c5 c6 c7
  replace kt := kt.frm (ex := fun _ => False) (Frm.of_below b2) id
  have c0 : w15.cell? ⟨G, 0, none⟩ = some (.int .i64 (v0 : Int)) := kt.cell 0
  have c1 : w15.cell? ⟨G, 1, none⟩ = some (.int .i64 (v1 : Int)) := kt.cell 1
  have c2 : w15.cell? ⟨G, 2, none⟩ = some (.int .u64 (v2 : Int)) := kt.cell 2
  have c3 : w15.cell? ⟨G, 3, none⟩ = some (.int .u64 (v3 : Int)) := kt.cell 3
  have c4 : w15.cell? ⟨G, 4, none⟩ = some (.int .i64 (v4 : Int)) := kt.cell 4
  have c5 : w15.cell? ⟨G, 5, none⟩ = some (.int .i64 (v5 : Int)) := kt.cell 5
  have c6 : w15.cell? ⟨G, 6, none⟩ = some (.int .i64 (v6 : Int)) := kt.cell 6
  have c7 : w15.cell? ⟨G, 7, none⟩ = some (.int .i64 (v7 : Int)) := kt.cell 7
  replace o := o.bel b2
  replace b := b.trans (b2.mono hsz)
  replace hsz := Nat.le_trans hsz b2.size
  obtain ⟨_, _, er, _, rl⟩ := ol.rd
  cases er
  go_wp2_with (at_builtin; refine wpList_appx _ rfl (.tmp 85) (.tmp 89) 22 rfl 5 _ 1 1 Tryd.underlying22 info5 rfl (by decide) rfl o rfl (by rw [u8s_length, leb_len]) rl (one_u8s _) (by unfold maxLen; omega) (by omega) ?_; intro v9 w16 sp9 o9 y9; rw [← u8s_append] at o9; have f9 := fresh_app (B := G) hsz f y9.at_; have bb := below_frm b hsz y9.frm (fun q hq => f q hq); have tt := kt.frm y9.frm (fun hq => own_ne o (by decide) hq kt); obtain ⟨B7, d7, rfl, _, _⟩ := o9.rd; replace hsz := Nat.le_trans hsz y9.frm.size; clear o f b kt y9 ol fl b2 rl c0 c1 c2 c3 c4 c5 c6 c7; have o := o9; have f := f9; have b := bb; have kt := tt; clear o9 f9 bb tt; have c0 : w16.cell? ⟨G, 0, none⟩ = some (.int .i64 (v0 : Int)) := kt.cell 0; have c1 : w16.cell? ⟨G, 1, none⟩ = some (.int .i64 (v1 : Int)) := kt.cell 1; have c2 : w16.cell? ⟨G, 2, none⟩ = some (.int .u64 (v2 : Int)) := kt.cell 2; have c3 : w16.cell? ⟨G, 3, none⟩ = some (.int .u64 (v3 : Int)) := kt.cell 3; have c4 : w16.cell? ⟨G, 4, none⟩ = some (.int .i64 (v4 : Int)) := kt.cell 4; have c5 : w16.cell? ⟨G, 5, none⟩ = some (.int .i64 (v5 : Int)) := kt.cell 5; have c6 : w16.cell? ⟨G, 6, none⟩ = some (.int .i64 (v6 : Int)) := kt.cell 6; have c7 : w16.cell? ⟨G, 7, none⟩ = some (.int .i64 (v7 : Int)) := kt.cell 7)
  go_wp2
  go_ret2
  obtain ⟨_, _, er, _, rr⟩ := o.rd
  cases er
  exact ⟨_, _, rfl, rr, b⟩
set_option maxRecDepth 100000 in
set_option maxHeartbeats 6400000 in
theorem rPack_no (x0 x1 x2 x3 x4 x5 x6 x7 : Int) (h0 : -9223372036854775808 ≤ x0 ∧ x0 ≤ 9223372036854775807) (h1 : -9223372036854775808 ≤ x1 ∧ x1 ≤ 9223372036854775807) (h2 : 0 ≤ x2 ∧ x2 ≤ 18446744073709551615) (h3 : 0 ≤ x3 ∧ x3 ≤ 18446744073709551615) (h4 : -9223372036854775808 ≤ x4 ∧ x4 ≤ 9223372036854775807) (h5 : -9223372036854775808 ≤ x5 ∧ x5 ≤ 9223372036854775807) (h6 : -9223372036854775808 ≤ x6 ∧ x6 ≤ 9223372036854775807) (h7 : -9223372036854775808 ≤ x7 ∧ x7 ≤ 9223372036854775807) (hn : ¬ FitI x0 x1 x2 x3 x4 x5 x6 x7) (w : World) :
    Calls Tryd.prog 18 #[.agg #[.int .i64 x0, .int .i64 x1, .int .u64 x2, .int .u64 x3, .int .i64 x4, .int .i64 x5, .int .i64 x6, .int .i64 x7]] w fun e w' => e = .returned (.tuple #[.slice none 0 0, .int .i64 61]) ∧ Below w.heap.size w w' := by
  unfold FitI at hn
  obtain ⟨w1, hw1⟩ : ∃ x, x = w.alloc (.cells #[.int .i64 x0, .int .i64 x1, .int .u64 x2, .int .u64 x3, .int .i64 x4, .int .i64 x5, .int .i64 x6, .int .i64 x7] 25) := ⟨_, rfl⟩
  have b : Below w.heap.size w w1 := by rw [hw1]; exact (Below.refl _ w).alloc (Nat.le_refl _) _
  have kt : Blk w1 w.heap.size 25 [.int .i64 x0, .int .i64 x1, .int .u64 x2, .int .u64 x3, .int .i64 x4, .int .i64 x5, .int .i64 x6, .int .i64 x7] := by rw [hw1]; exact Blk.new w _ _
  obtain ⟨G, hG⟩ : ∃ G, G = w.heap.size := ⟨_, rfl⟩
  rw [← hG] at kt
  go_enter Tryd.func18, Tryd.ntmps18
  go_upto_region 1 with fail
  rw [← hw1, ← hG]
  clear hw1 hG
  have c0 : w1.cell? ⟨G, 0, none⟩ = some (.int .i64 x0) := kt.cell 0
  have c1 : w1.cell? ⟨G, 1, none⟩ = some (.int .i64 x1) := kt.cell 1
  have c2 : w1.cell? ⟨G, 2, none⟩ = some (.int .u64 x2) := kt.cell 2
  have c3 : w1.cell? ⟨G, 3, none⟩ = some (.int .u64 x3) := kt.cell 3
  have c4 : w1.cell? ⟨G, 4, none⟩ = some (.int .i64 x4) := kt.cell 4
  have c5 : w1.cell? ⟨G, 5, none⟩ = some (.int .i64 x5) := kt.cell 5
  have c6 : w1.cell? ⟨G, 6, none⟩ = some (.int .i64 x6) := kt.cell 6
  have c7 : w1.cell? ⟨G, 7, none⟩ = some (.int .i64 x7) := kt.cell 7
  clear kt
  by_cases p0 : 0 ≤ x0 ∧ x0 ≤ 255
  rotate_left
  · clear hn
    go_wp2_with (go_at_call 31; first | ((with_reducible refine (fits_yes _ _ (by omega) (by omega) _).mono ?_); rintro e w' ⟨rfl, rfl⟩) | ((with_reducible refine (fits_not _ _ (by omega) _).mono ?_); rintro e w' ⟨rfl, rfl⟩))
    go_ret2
    exact ⟨rfl, b⟩
  by_cases p1 : 0 ≤ x1 ∧ x1 ≤ 255
  rotate_left
  · clear hn
    go_wp2_with (go_at_call 31; first | ((with_reducible refine (fits_yes _ _ (by omega) (by omega) _).mono ?_); rintro e w' ⟨rfl, rfl⟩) | ((with_reducible refine (fits_not _ _ (by omega) _).mono ?_); rintro e w' ⟨rfl, rfl⟩))
    go_ret2
    exact ⟨rfl, b⟩
  by_cases p2 : x2 ≤ 281474976710655
  rotate_left
  · clear hn
    have g2 : (281474976710655 : Int) < x2 := by omega
    go_wp2_with (go_at_call 31; first | ((with_reducible refine (fits_yes _ _ (by omega) (by omega) _).mono ?_); rintro e w' ⟨rfl, rfl⟩) | ((with_reducible refine (fits_not _ _ (by omega) _).mono ?_); rintro e w' ⟨rfl, rfl⟩))
    go_ret2
    exact ⟨rfl, b⟩
  have g2 : ¬ (281474976710655 : Int) < x2 := by omega
  by_cases p3 : x3 ≤ 281474976710655
  rotate_left
  · clear hn
    have g3 : (281474976710655 : Int) < x3 := by omega
    go_wp2_with (go_at_call 31; first | ((with_reducible refine (fits_yes _ _ (by omega) (by omega) _).mono ?_); rintro e w' ⟨rfl, rfl⟩) | ((with_reducible refine (fits_not _ _ (by omega) _).mono ?_); rintro e w' ⟨rfl, rfl⟩))
    go_ret2
    exact ⟨rfl, b⟩
  have g3 : ¬ (281474976710655 : Int) < x3 := by omega
  by_cases p4 : 0 ≤ x4 ∧ x4 ≤ 4294967295
  rotate_left
  · clear hn
    go_wp2_with (go_at_call 31; first | ((with_reducible refine (fits_yes _ _ (by omega) (by omega) _).mono ?_); rintro e w' ⟨rfl, rfl⟩) | ((with_reducible refine (fits_not _ _ (by omega) _).mono ?_); rintro e w' ⟨rfl, rfl⟩))
    go_ret2
    exact ⟨rfl, b⟩
  by_cases p5 : 0 ≤ x5 ∧ x5 ≤ 4294967295
  rotate_left
  · clear hn
    go_wp2_with (go_at_call 31; first | ((with_reducible refine (fits_yes _ _ (by omega) (by omega) _).mono ?_); rintro e w' ⟨rfl, rfl⟩) | ((with_reducible refine (fits_not _ _ (by omega) _).mono ?_); rintro e w' ⟨rfl, rfl⟩))
    go_ret2
    exact ⟨rfl, b⟩
  by_cases p6 : 0 ≤ x6 ∧ x6 ≤ 65535
  rotate_left
  · clear hn
    go_wp2_with (go_at_call 31; first | ((with_reducible refine (fits_yes _ _ (by omega) (by omega) _).mono ?_); rintro e w' ⟨rfl, rfl⟩) | ((with_reducible refine (fits_not _ _ (by omega) _).mono ?_); rintro e w' ⟨rfl, rfl⟩))
    go_ret2
    exact ⟨rfl, b⟩
  by_cases p7 : 0 ≤ x7 ∧ x7 ≤ 65535
  · exact absurd (by omega) hn
  · clear hn
    go_wp2_with (go_at_call 31; first | ((with_reducible refine (fits_yes _ _ (by omega) (by omega) _).mono ?_); rintro e w' ⟨rfl, rfl⟩) | ((with_reducible refine (fits_not _ _ (by omega) _).mono ?_); rintro e w' ⟨rfl, rfl⟩))
    go_ret2
    exact ⟨rfl, b⟩
theorem rPack_any (x0 x1 x2 x3 x4 x5 x6 x7 : Int) (h0 : -9223372036854775808 ≤ x0 ∧ x0 ≤ 9223372036854775807) (h1 : -9223372036854775808 ≤ x1 ∧ x1 ≤ 9223372036854775807) (h2 : 0 ≤ x2 ∧ x2 ≤ 18446744073709551615) (h3 : 0 ≤ x3 ∧ x3 ≤ 18446744073709551615) (h4 : -9223372036854775808 ≤ x4 ∧ x4 ≤ 9223372036854775807) (h5 : -9223372036854775808 ≤ x5 ∧ x5 ≤ 9223372036854775807) (h6 : -9223372036854775808 ≤ x6 ∧ x6 ≤ 9223372036854775807) (h7 : -9223372036854775808 ≤ x7 ∧ x7 ≤ 9223372036854775807) (w : World) : Calls Tryd.prog 18 #[.agg #[.int .i64 x0, .int .i64 x1, .int .u64 x2, .int .u64 x3, .int .i64 x4, .int .i64 x5, .int .i64 x6, .int .i64 x7]] w (RPackP x0 x1 x2 x3 x4 x5 x6 x7 w) := by
  by_cases hf : FitI x0 x1 x2 x3 x4 x5 x6 x7
  · have hf2 := hf
    unfold FitI at hf2
    obtain ⟨v0, rfl⟩ : ∃ v : Nat, x0 = v := ⟨x0.toNat, by omega⟩
    obtain ⟨v1, rfl⟩ : ∃ v : Nat, x1 = v := ⟨x1.toNat, by omega⟩
    obtain ⟨v2, rfl⟩ : ∃ v : Nat, x2 = v := ⟨x2.toNat, by omega⟩
    obtain ⟨v3, rfl⟩ : ∃ v : Nat, x3 = v := ⟨x3.toNat, by omega⟩
    obtain ⟨v4, rfl⟩ : ∃ v : Nat, x4 = v := ⟨x4.toNat, by omega⟩
    obtain ⟨v5, rfl⟩ : ∃ v : Nat, x5 = v := ⟨x5.toNat, by omega⟩
    obtain ⟨v6, rfl⟩ : ∃ v : Nat, x6 = v := ⟨x6.toNat, by omega⟩
    obtain ⟨v7, rfl⟩ : ∃ v : Nat, x7 = v := ⟨x7.toNat, by omega⟩
    have hV : FitV v0 v1 v2 v3 v4 v5 v6 v7 := by unfold FitV; omega
    exact (rPack_ok v0 v1 v2 v3 v4 v5 v6 v7 hV w).mono fun e w' ⟨A, c, h1, h2, h3⟩ => .inl ⟨v0, v1, v2, v3, v4, v5, v6, v7, ⟨rfl, rfl, rfl, rfl, rfl, rfl, rfl, rfl⟩, hV, A, c, h1, h2, h3⟩
  · exact (rPack_no x0 x1 x2 x3 x4 x5 x6 x7 h0 h1 h2 h3 h4 h5 h6 h7 hf w).mono fun e w' ⟨h1, h2⟩ => .inr ⟨hf, h1, h2⟩
end Go.Proofs.YtekbjcagjkcaiaaDoor
