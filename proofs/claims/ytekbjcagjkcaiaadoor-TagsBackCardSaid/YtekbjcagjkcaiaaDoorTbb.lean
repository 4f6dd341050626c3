/- The law TagsBack: its walk. -/
import Derived.Test.YtekbjcagjkcaiaaDoorTba
namespace Go.Proofs.YtekbjcagjkcaiaaDoor
open Go.RowKit
set_option linter.unusedVariables false
set_option linter.unusedSimpArgs false
set_option maxRecDepth 100000 in
set_option maxHeartbeats 6400000 in
theorem back_walk (w : World) (gb gp gs : Int) (hb : -9223372036854775808 ≤ gb ∧ gb ≤ 9223372036854775807) (hp : -9223372036854775808 ≤ gp ∧ gp ≤ 9223372036854775807) (hs : -9223372036854775808 ≤ gs ∧ gs ≤ 9223372036854775807) (x0 x1 x2 x3 x4 x5 x6 x7 : Int) (h0 : -9223372036854775808 ≤ x0 ∧ x0 ≤ 9223372036854775807) (h1 : -9223372036854775808 ≤ x1 ∧ x1 ≤ 9223372036854775807) (h2 : 0 ≤ x2 ∧ x2 ≤ 18446744073709551615) (h3 : 0 ≤ x3 ∧ x3 ≤ 18446744073709551615) (h4 : -9223372036854775808 ≤ x4 ∧ x4 ≤ 9223372036854775807) (h5 : -9223372036854775808 ≤ x5 ∧ x5 ≤ 9223372036854775807) (h6 : -9223372036854775808 ≤ x6 ∧ x6 ≤ 9223372036854775807) (h7 : -9223372036854775808 ≤ x7 ∧ x7 ≤ 9223372036854775807) (A : Option Addr) (n cap : Nat) (l : List UInt8) (hl : l.length = n) (hr : Rd w A (u8s l)) (hm : n ≤ 140737488351232) (hT : LayT w ∧ SpT w) :
    Calls Tryd.prog 6 #[.agg #[.int .i64 gb, .int .i64 gp, .int .i64 gs], .agg #[.int .i64 x0, .int .i64 x1, .int .u64 x2, .int .u64 x3, .int .i64 x4, .int .i64 x5, .int .i64 x6, .int .i64 x7], .slice A n cap] w fun e w' => e = .returned (.bool true) ∧ Below w.heap.size w w' := by
  have hL := hT.1
  have hS := hT.2
  have HL := Lib.hid hL
  have HS := Lib.hid hS
  have HR := Lib.hid hr
  have k1 := fun wx => check_any gb gp gs x0 x1 x2 x3 x4 x5 x6 x7 h4.2 wx
  have hv := chk_vals gb gp gs x0 x1 x2 x3 x4 x5 x6 x7
  have hz := fun (h : chk gb gp gs x0 x1 x2 x3 x4 x5 x6 x7 = 0) => fit_chk h
  generalize chk gb gp gs x0 x1 x2 x3 x4 x5 x6 x7 = e1 at *
  obtain ⟨w1, hw1⟩ : ∃ x, x = (w.alloc (.cells #[.int .i64 gb, .int .i64 gp, .int .i64 gs] 46)).alloc (.cells #[.int .i64 x0, .int .i64 x1, .int .u64 x2, .int .u64 x3, .int .i64 x4, .int .i64 x5, .int .i64 x6, .int .i64 x7] 25) := ⟨_, rfl⟩
  have b : Below w.heap.size w w1 := by rw [hw1]; exact ((Below.refl _ w).alloc (Nat.le_refl _) _).alloc (by simp) _
  have kg : Blk w1 w.heap.size 46 [.int .i64 gb, .int .i64 gp, .int .i64 gs] := by rw [hw1]; exact (Blk.new w 46 [.int .i64 gb, .int .i64 gp, .int .i64 gs]).alloc _
  have kt : Blk w1 (w.heap.size + 1) 25 [.int .i64 x0, .int .i64 x1, .int .u64 x2, .int .u64 x3, .int .i64 x4, .int .i64 x5, .int .i64 x6, .int .i64 x7] := by
    have h := Blk.new (w.alloc (.cells #[.int .i64 gb, .int .i64 gp, .int .i64 gs] 46)) 25 [.int .i64 x0, .int .i64 x1, .int .u64 x2, .int .u64 x3, .int .i64 x4, .int .i64 x5, .int .i64 x6, .int .i64 x7]
    rw [World.size_alloc] at h
    rw [hw1]; exact h
  have hh := heads_any w1 (hL.below b) (hS.below b)
  obtain ⟨G, hG⟩ : ∃ G, G = w.heap.size := ⟨_, rfl⟩
  rw [← hG] at kg kt
  have hrd : 26 = n → ∃ y0 y1 y2 y3 y4 y5 y6 y7 : Int, (∀ A c w, Rd w A (u8s l) → LayT w → Calls Tryd.prog 12 #[.slice A 26 c] w fun e w' => e = .returned (.tuple #[.agg #[.int .i64 y0, .int .i64 y1, .int .u64 y2, .int .u64 y3, .int .i64 y4, .int .i64 y5, .int .i64 y6, .int .i64 y7], .int .i64 0]) ∧ Below w.heap.size w w') ∧ (∀ w, LayT w → Calls Tryd.prog 20 #[.agg #[.int .i64 y0, .int .i64 y1, .int .u64 y2, .int .u64 y3, .int .i64 y4, .int .i64 y5, .int .i64 y6, .int .i64 y7]] w fun e w' => ∃ A c sp, e = .returned (.tuple #[.slice A 26 c, .int .i64 0]) ∧ Owx w' 5 1 (.slice A 26 c) 26 (u8s l) sp ∧ Below w.heap.size w w') := fun h => back_bytes l (by omega)
  have HRD := Lib.hid hrd
  have hno := fun (h : ¬ 26 = n) wx => Read_no A n cap wx (by omega) (by omega)
  unfold tagZ at hno
  have HNO := Lib.hid hno
  have HLN := Lib.hid hl
  clear hT hL hS hr hrd hno hl
  by_cases hf : FitI x0 x1 x2 x3 x4 x5 x6 x7
  · obtain ⟨LB, l1, l2, pk, ly, rr, lf⟩ := back_fit x0 x1 x2 x3 x4 x5 x6 x7 hf
    have PK := Lib.hid pk
    have LY := Lib.hid ly
    have RR := Lib.hid rr
    have lf2 := fun A c wx hr hL => lf A c wx (layB LB) (-1) l2 (read_lay LB (by omega)) hr hL
    have LF := Lib.hid lf2
    clear pk ly rr lf lf2 hf h0 h1 h2 h3 h4 h5 h6 h7 hb hp hs hz
    go_enter Tryd.func6, Tryd.ntmps6
    go_wp2_with fail
    rw [← hw1, ← hG]
    clear hw1 hG
    with_reducible refine hh.mono ?_
    rintro e w2 ⟨rfl, b2⟩
    replace kg := kg.frm (ex := fun _ => False) (Frm.of_below b2) id
    replace kt := kt.frm (ex := fun _ => False) (Frm.of_below b2) id
    replace b := b.trans (b2.mono b.size)
    clear b2 hh
    have g0 : w2.cell? ⟨G, 0, none⟩ = some (.int .i64 gb) := kg.cell 0
    have g1 : w2.cell? ⟨G, 1, none⟩ = some (.int .i64 gp) := kg.cell 1
    have g2 : w2.cell? ⟨G, 2, none⟩ = some (.int .i64 gs) := kg.cell 2
    have c0 : w2.cell? ⟨G + 1, 0, none⟩ = some (.int .i64 x0) := kt.cell 0
    have c1 : w2.cell? ⟨G + 1, 1, none⟩ = some (.int .i64 x1) := kt.cell 1
    have c2 : w2.cell? ⟨G + 1, 2, none⟩ = some (.int .u64 x2) := kt.cell 2
    have c3 : w2.cell? ⟨G + 1, 3, none⟩ = some (.int .u64 x3) := kt.cell 3
    have c4 : w2.cell? ⟨G + 1, 4, none⟩ = some (.int .i64 x4) := kt.cell 4
    have c5 : w2.cell? ⟨G + 1, 5, none⟩ = some (.int .i64 x5) := kt.cell 5
    have c6 : w2.cell? ⟨G + 1, 6, none⟩ = some (.int .i64 x6) := kt.cell 6
    have c7 : w2.cell? ⟨G + 1, 7, none⟩ = some (.int .i64 x7) := kt.cell 7
    go_wp2_with fail
    with_reducible refine (PK.out _ (HL.out.below b)).mono ?_
    rintro e w3 ⟨A1, q1, s1, rfl, o1, f1, b2⟩
    replace kg := kg.frm (ex := fun _ => False) (Frm.of_below b2) id
    replace kt := kt.frm (ex := fun _ => False) (Frm.of_below b2) id
    obtain ⟨_, _, er, _, r1⟩ := o1.rd
    cases er
    replace b := b.trans (b2.mono b.size)
    clear b2 o1 f1
    clear g0 g1 g2 c0 c1 c2 c3 c4 c5 c6 c7
    have g0 : w3.cell? ⟨G, 0, none⟩ = some (.int .i64 gb) := kg.cell 0
    have g1 : w3.cell? ⟨G, 1, none⟩ = some (.int .i64 gp) := kg.cell 1
    have g2 : w3.cell? ⟨G, 2, none⟩ = some (.int .i64 gs) := kg.cell 2
    have c0 : w3.cell? ⟨G + 1, 0, none⟩ = some (.int .i64 x0) := kt.cell 0
    have c1 : w3.cell? ⟨G + 1, 1, none⟩ = some (.int .i64 x1) := kt.cell 1
    have c2 : w3.cell? ⟨G + 1, 2, none⟩ = some (.int .u64 x2) := kt.cell 2
    have c3 : w3.cell? ⟨G + 1, 3, none⟩ = some (.int .u64 x3) := kt.cell 3
    have c4 : w3.cell? ⟨G + 1, 4, none⟩ = some (.int .i64 x4) := kt.cell 4
    have c5 : w3.cell? ⟨G + 1, 5, none⟩ = some (.int .i64 x5) := kt.cell 5
    have c6 : w3.cell? ⟨G + 1, 6, none⟩ = some (.int .i64 x6) := kt.cell 6
    have c7 : w3.cell? ⟨G + 1, 7, none⟩ = some (.int .i64 x7) := kt.cell 7
    go_wp2_with fail
    with_reducible refine (LY.out _ (HL.out.below b) (HS.out.below b)).mono ?_
    rintro e w4 ⟨A2, q2, s2, rfl, o2, f2, b2⟩
    replace kg := kg.frm (ex := fun _ => False) (Frm.of_below b2) id
    replace kt := kt.frm (ex := fun _ => False) (Frm.of_below b2) id
    obtain ⟨_, _, er, _, r2⟩ := o2.rd
    cases er
    replace r1 := r1.below b2
    replace b := b.trans (b2.mono b.size)
    clear b2 o2 f2
    clear g0 g1 g2 c0 c1 c2 c3 c4 c5 c6 c7
    have g0 : w4.cell? ⟨G, 0, none⟩ = some (.int .i64 gb) := kg.cell 0
    have g1 : w4.cell? ⟨G, 1, none⟩ = some (.int .i64 gp) := kg.cell 1
    have g2 : w4.cell? ⟨G, 2, none⟩ = some (.int .i64 gs) := kg.cell 2
    have c0 : w4.cell? ⟨G + 1, 0, none⟩ = some (.int .i64 x0) := kt.cell 0
    have c1 : w4.cell? ⟨G + 1, 1, none⟩ = some (.int .i64 x1) := kt.cell 1
    have c2 : w4.cell? ⟨G + 1, 2, none⟩ = some (.int .u64 x2) := kt.cell 2
    have c3 : w4.cell? ⟨G + 1, 3, none⟩ = some (.int .u64 x3) := kt.cell 3
    have c4 : w4.cell? ⟨G + 1, 4, none⟩ = some (.int .i64 x4) := kt.cell 4
    have c5 : w4.cell? ⟨G + 1, 5, none⟩ = some (.int .i64 x5) := kt.cell 5
    have c6 : w4.cell? ⟨G + 1, 6, none⟩ = some (.int .i64 x6) := kt.cell 6
    have c7 : w4.cell? ⟨G + 1, 7, none⟩ = some (.int .i64 x7) := kt.cell 7
    go_upto_region 5 with fail
    go_cut [46] (fun s wx => s = .bool false ∧ Below w4.heap.size w4 wx)
    case first =>
      go_wp2_with fail
      with_reducible refine (k1 _).mono ?_
      rintro e w5 ⟨rfl, b2⟩
      rcases hv with h | h | h
      · subst h
        go_wp2_with (go_at_call 13; (with_reducible refine (no_any _ _).mono ?_); rintro e w' ⟨rfl, rfl⟩)
        go_meet
        exact ⟨rfl, b2⟩
      · subst h
        go_wp2_with (go_at_call 13; (with_reducible refine (no_any _ _).mono ?_); rintro e w' ⟨rfl, rfl⟩)
        go_meet
        exact ⟨rfl, b2⟩
      · subst h
        go_wp2_with (go_at_call 13; (with_reducible refine (no_any _ _).mono ?_); rintro e w' ⟨rfl, rfl⟩)
        go_meet
        exact ⟨rfl, b2⟩
    case rest =>
      obtain ⟨rfl, b2⟩ := hcut
      generalize wc = w5 at *
      clear k1 hv
      replace kt := kt.frm (ex := fun _ => False) (Frm.of_below b2) id
      replace r1 := r1.below b2
      replace r2 := r2.below b2
      replace b := b.trans (b2.mono b.size)
      clear g0 g1 g2 c0 c1 c2 c3 c4 c5 c6 c7
      clear b2 kg
      go_wp2_with (go_at_call 13; (with_reducible refine (no_any _ _).mono ?_); rintro e w' ⟨rfl, rfl⟩)
      with_reducible refine (RR.out _ _ _ r1 (HL.out.below b)).mono ?_
      rintro e w6 ⟨rfl, b2⟩
      replace kt := kt.frm (ex := fun _ => False) (Frm.of_below b2) id
      replace r2 := r2.below b2
      replace b := b.trans (b2.mono b.size)
      clear b2 r1
      go_upto_region 11 with fail
      obtain ⟨w7, hw7⟩ : ∃ x, x = w6.alloc (.cells #[.int .i64 x0, .int .i64 x1, .int .u64 x2, .int .u64 x3, .int .i64 x4, .int .i64 x5, .int .i64 x6, .int .i64 x7] 25) := ⟨_, rfl⟩
      have ku : Blk w7 w6.heap.size 25 [.int .i64 x0, .int .i64 x1, .int .u64 x2, .int .u64 x3, .int .i64 x4, .int .i64 x5, .int .i64 x6, .int .i64 x7] := by rw [hw7]; exact Blk.new w6 _ _
      replace kt : Blk w7 (G + 1) 25 [.int .i64 x0, .int .i64 x1, .int .u64 x2, .int .u64 x3, .int .i64 x4, .int .i64 x5, .int .i64 x6, .int .i64 x7] := by rw [hw7]; exact kt.alloc _
      replace b : Below w.heap.size w w7 := by rw [hw7]; exact b.alloc b.size _
      replace r2 : Rd w7 A2 (u8s (layB LB)) := r2.below (by rw [hw7]; exact (Below.refl _ w6).alloc (Nat.le_refl _) _)
      rw [← hw7]
      obtain ⟨Q, hQ⟩ : ∃ Q, Q = w6.heap.size := ⟨_, rfl⟩
      rw [← hQ] at ku ⊢
      clear hw7 hQ
      go_wp2_with fail
      with_reducible refine (LF.out _ _ _ r2 (HL.out.below b)).mono ?_
      rintro e w8 ⟨rfl, b2⟩
      replace kt := kt.frm (ex := fun _ => False) (Frm.of_below b2) id
      replace ku := ku.frm (ex := fun _ => False) (Frm.of_below b2) id
      replace b := b.trans (b2.mono b.size)
      clear b2 r2
      go_upto_region 12 with fail
      obtain ⟨w9, hw9⟩ : ∃ x, x = w8.alloc (.cells #[.int .i64 x0, .int .i64 x1, .int .u64 x2, .int .u64 x3, .int .i64 x4, .int .i64 x5, .int .i64 x6, .int .i64 x7] 25) := ⟨_, rfl⟩
      have kv : Blk w9 w8.heap.size 25 [.int .i64 x0, .int .i64 x1, .int .u64 x2, .int .u64 x3, .int .i64 x4, .int .i64 x5, .int .i64 x6, .int .i64 x7] := by rw [hw9]; exact Blk.new w8 _ _
      replace kt : Blk w9 (G + 1) 25 [.int .i64 x0, .int .i64 x1, .int .u64 x2, .int .u64 x3, .int .i64 x4, .int .i64 x5, .int .i64 x6, .int .i64 x7] := by rw [hw9]; exact kt.alloc _
      replace ku : Blk w9 Q 25 [.int .i64 x0, .int .i64 x1, .int .u64 x2, .int .u64 x3, .int .i64 x4, .int .i64 x5, .int .i64 x6, .int .i64 x7] := by rw [hw9]; exact ku.alloc _
      replace b : Below w.heap.size w w9 := by rw [hw9]; exact b.alloc b.size _
      rw [← hw9]
      obtain ⟨R, hR⟩ : ∃ R, R = w8.heap.size := ⟨_, rfl⟩
      rw [← hR] at kv ⊢
      clear hw9 hR
      have c0 : w9.cell? ⟨G + 1, 0, none⟩ = some (.int .i64 x0) := kt.cell 0
      have c1 : w9.cell? ⟨G + 1, 1, none⟩ = some (.int .i64 x1) := kt.cell 1
      have c2 : w9.cell? ⟨G + 1, 2, none⟩ = some (.int .u64 x2) := kt.cell 2
      have c3 : w9.cell? ⟨G + 1, 3, none⟩ = some (.int .u64 x3) := kt.cell 3
      have c4 : w9.cell? ⟨G + 1, 4, none⟩ = some (.int .i64 x4) := kt.cell 4
      have c5 : w9.cell? ⟨G + 1, 5, none⟩ = some (.int .i64 x5) := kt.cell 5
      have c6 : w9.cell? ⟨G + 1, 6, none⟩ = some (.int .i64 x6) := kt.cell 6
      have c7 : w9.cell? ⟨G + 1, 7, none⟩ = some (.int .i64 x7) := kt.cell 7
      have d0 : w9.cell? ⟨Q, 0, none⟩ = some (.int .i64 x0) := ku.cell 0
      have d1 : w9.cell? ⟨Q, 1, none⟩ = some (.int .i64 x1) := ku.cell 1
      have d2 : w9.cell? ⟨Q, 2, none⟩ = some (.int .u64 x2) := ku.cell 2
      have d3 : w9.cell? ⟨Q, 3, none⟩ = some (.int .u64 x3) := ku.cell 3
      have d4 : w9.cell? ⟨Q, 4, none⟩ = some (.int .i64 x4) := ku.cell 4
      have d5 : w9.cell? ⟨Q, 5, none⟩ = some (.int .i64 x5) := ku.cell 5
      have d6 : w9.cell? ⟨Q, 6, none⟩ = some (.int .i64 x6) := ku.cell 6
      have d7 : w9.cell? ⟨Q, 7, none⟩ = some (.int .i64 x7) := ku.cell 7
      go_wp2_with (go_at_call 13; (with_reducible refine (no_any _ _).mono ?_); rintro e w' ⟨rfl, rfl⟩)
      with_reducible refine (same_tags _ _ _ _ _ _ _ _ _).mono ?_
      rintro e w10 ⟨rfl, b2⟩
      replace kt := kt.frm (ex := fun _ => False) (Frm.of_below b2) id
      replace kv := kv.frm (ex := fun _ => False) (Frm.of_below b2) id
      replace b := b.trans (b2.mono b.size)
      clear b2 ku
      clear c0 c1 c2 c3 c4 c5 c6 c7
      clear d0 d1 d2 d3 d4 d5 d6 d7
      have c0 : w10.cell? ⟨G + 1, 0, none⟩ = some (.int .i64 x0) := kt.cell 0
      have c1 : w10.cell? ⟨G + 1, 1, none⟩ = some (.int .i64 x1) := kt.cell 1
      have c2 : w10.cell? ⟨G + 1, 2, none⟩ = some (.int .u64 x2) := kt.cell 2
      have c3 : w10.cell? ⟨G + 1, 3, none⟩ = some (.int .u64 x3) := kt.cell 3
      have c4 : w10.cell? ⟨G + 1, 4, none⟩ = some (.int .i64 x4) := kt.cell 4
      have c5 : w10.cell? ⟨G + 1, 5, none⟩ = some (.int .i64 x5) := kt.cell 5
      have c6 : w10.cell? ⟨G + 1, 6, none⟩ = some (.int .i64 x6) := kt.cell 6
      have c7 : w10.cell? ⟨G + 1, 7, none⟩ = some (.int .i64 x7) := kt.cell 7
      have d0 : w10.cell? ⟨R, 0, none⟩ = some (.int .i64 x0) := kv.cell 0
      have d1 : w10.cell? ⟨R, 1, none⟩ = some (.int .i64 x1) := kv.cell 1
      have d2 : w10.cell? ⟨R, 2, none⟩ = some (.int .u64 x2) := kv.cell 2
      have d3 : w10.cell? ⟨R, 3, none⟩ = some (.int .u64 x3) := kv.cell 3
      have d4 : w10.cell? ⟨R, 4, none⟩ = some (.int .i64 x4) := kv.cell 4
      have d5 : w10.cell? ⟨R, 5, none⟩ = some (.int .i64 x5) := kv.cell 5
      have d6 : w10.cell? ⟨R, 6, none⟩ = some (.int .i64 x6) := kv.cell 6
      have d7 : w10.cell? ⟨R, 7, none⟩ = some (.int .i64 x7) := kv.cell 7
      go_wp2_with fail
      with_reducible refine (same_tags _ _ _ _ _ _ _ _ _).mono ?_
      rintro e w11 ⟨rfl, b2⟩
      replace b := b.trans (b2.mono b.size)
      clear b2 kt kv
      clear c0 c1 c2 c3 c4 c5 c6 c7
      clear d0 d1 d2 d3 d4 d5 d6 d7
      by_cases hn : 26 = n
      · obtain ⟨y0, y1, y2, y3, y4, y5, y6, y7, rd, pk⟩ := HRD.out hn
        have LEN := HLN
        subst hn
        go_wp2_with fail
        with_reducible refine (rd _ _ _ (HR.out.below b) (HL.out.below b)).mono ?_
        rintro e wa ⟨rfl, b2⟩
        replace b := b.trans (b2.mono b.size)
        clear b2 rd
        go_upto_region 15 with fail
        obtain ⟨wb, hwb⟩ : ∃ x, x = wa.alloc (.cells #[.int .i64 y0, .int .i64 y1, .int .u64 y2, .int .u64 y3, .int .i64 y4, .int .i64 y5, .int .i64 y6, .int .i64 y7] 25) := ⟨_, rfl⟩
        have ku : Blk wb wa.heap.size 25 [.int .i64 y0, .int .i64 y1, .int .u64 y2, .int .u64 y3, .int .i64 y4, .int .i64 y5, .int .i64 y6, .int .i64 y7] := by rw [hwb]; exact Blk.new wa _ _
        replace b : Below w.heap.size w wb := by rw [hwb]; exact b.alloc b.size _
        rw [← hwb]
        obtain ⟨Z, hZ⟩ : ∃ Z, Z = wa.heap.size := ⟨_, rfl⟩
        rw [← hZ] at ku ⊢
        clear hwb hZ
        have c0 : wb.cell? ⟨Z, 0, none⟩ = some (.int .i64 y0) := ku.cell 0
        have c1 : wb.cell? ⟨Z, 1, none⟩ = some (.int .i64 y1) := ku.cell 1
        have c2 : wb.cell? ⟨Z, 2, none⟩ = some (.int .u64 y2) := ku.cell 2
        have c3 : wb.cell? ⟨Z, 3, none⟩ = some (.int .u64 y3) := ku.cell 3
        have c4 : wb.cell? ⟨Z, 4, none⟩ = some (.int .i64 y4) := ku.cell 4
        have c5 : wb.cell? ⟨Z, 5, none⟩ = some (.int .i64 y5) := ku.cell 5
        have c6 : wb.cell? ⟨Z, 6, none⟩ = some (.int .i64 y6) := ku.cell 6
        have c7 : wb.cell? ⟨Z, 7, none⟩ = some (.int .i64 y7) := ku.cell 7
        go_wp2_with fail
        with_reducible refine (pk _ (HL.out.below b)).mono ?_
        rintro e wd ⟨A9, q9, s9, rfl, o9, b2⟩
        obtain ⟨_, _, er, _, r9⟩ := o9.rd
        cases er
        replace b := b.trans (b2.mono b.size)
        clear b2 o9 ku
        have rb : Rd wd A (u8s l) := HR.out.below b
        go_wp2_with (go_at_call 13; (with_reducible refine (no_any _ _).mono ?_); rintro e w' ⟨rfl, rfl⟩)
        with_reducible refine (same_true A9 A 26 q9 cap l _ LEN.out r9 rb (by omega)).mono ?_
        rintro e we ⟨rfl, hq⟩
        have b2 := bel_drawn hq
        replace b := b.trans (b2.mono b.size)
        go_wp2
        go_ret
        exact ⟨rfl, b⟩
      · have rn := HNO.out hn
        have hn2 : ¬ ((n : Nat) : Int) = 26 := by omega
        go_wp2_with fail
        with_reducible refine (rn _).mono ?_
        rintro e wa ⟨rfl, b2⟩
        replace b := b.trans (b2.mono b.size)
        clear b2 rn
        have b' := b.alloc b.size (.cells #[.int .i64 0, .int .i64 0, .int .u64 0, .int .u64 0, .int .i64 0, .int .i64 0, .int .i64 0, .int .i64 0] 25)
        go_wp2_with (go_at_call 13; (with_reducible refine (no_any _ _).mono ?_); rintro e w' ⟨rfl, rfl⟩)
        go_ret
        exact ⟨rfl, b'⟩
  · obtain ⟨pk, ly⟩ := back_unfit x0 x1 x2 x3 x4 x5 x6 x7 h0 h1 h2 h3 h4 h5 h6 h7 hf
    have PK := Lib.hid pk
    have LY := Lib.hid ly
    have he : ¬ e1 = 0 := fun h => hf (hz h)
    clear pk ly hf h0 h1 h2 h3 h4 h5 h6 h7 hb hp hs hz
    go_enter Tryd.func6, Tryd.ntmps6
    go_wp2_with fail
    rw [← hw1, ← hG]
    clear hw1 hG
    with_reducible refine hh.mono ?_
    rintro e w2 ⟨rfl, b2⟩
    replace kg := kg.frm (ex := fun _ => False) (Frm.of_below b2) id
    replace kt := kt.frm (ex := fun _ => False) (Frm.of_below b2) id
    replace b := b.trans (b2.mono b.size)
    clear b2 hh
    have g0 : w2.cell? ⟨G, 0, none⟩ = some (.int .i64 gb) := kg.cell 0
    have g1 : w2.cell? ⟨G, 1, none⟩ = some (.int .i64 gp) := kg.cell 1
    have g2 : w2.cell? ⟨G, 2, none⟩ = some (.int .i64 gs) := kg.cell 2
    have c0 : w2.cell? ⟨G + 1, 0, none⟩ = some (.int .i64 x0) := kt.cell 0
    have c1 : w2.cell? ⟨G + 1, 1, none⟩ = some (.int .i64 x1) := kt.cell 1
    have c2 : w2.cell? ⟨G + 1, 2, none⟩ = some (.int .u64 x2) := kt.cell 2
    have c3 : w2.cell? ⟨G + 1, 3, none⟩ = some (.int .u64 x3) := kt.cell 3
    have c4 : w2.cell? ⟨G + 1, 4, none⟩ = some (.int .i64 x4) := kt.cell 4
    have c5 : w2.cell? ⟨G + 1, 5, none⟩ = some (.int .i64 x5) := kt.cell 5
    have c6 : w2.cell? ⟨G + 1, 6, none⟩ = some (.int .i64 x6) := kt.cell 6
    have c7 : w2.cell? ⟨G + 1, 7, none⟩ = some (.int .i64 x7) := kt.cell 7
    go_wp2_with fail
    with_reducible refine (PK.out _ (HL.out.below b)).mono ?_
    rintro e w3 ⟨rfl, b2⟩
    replace kg := kg.frm (ex := fun _ => False) (Frm.of_below b2) id
    replace kt := kt.frm (ex := fun _ => False) (Frm.of_below b2) id
    replace b := b.trans (b2.mono b.size)
    clear b2
    clear g0 g1 g2 c0 c1 c2 c3 c4 c5 c6 c7
    have g0 : w3.cell? ⟨G, 0, none⟩ = some (.int .i64 gb) := kg.cell 0
    have g1 : w3.cell? ⟨G, 1, none⟩ = some (.int .i64 gp) := kg.cell 1
    have g2 : w3.cell? ⟨G, 2, none⟩ = some (.int .i64 gs) := kg.cell 2
    have c0 : w3.cell? ⟨G + 1, 0, none⟩ = some (.int .i64 x0) := kt.cell 0
    have c1 : w3.cell? ⟨G + 1, 1, none⟩ = some (.int .i64 x1) := kt.cell 1
    have c2 : w3.cell? ⟨G + 1, 2, none⟩ = some (.int .u64 x2) := kt.cell 2
    have c3 : w3.cell? ⟨G + 1, 3, none⟩ = some (.int .u64 x3) := kt.cell 3
    have c4 : w3.cell? ⟨G + 1, 4, none⟩ = some (.int .i64 x4) := kt.cell 4
    have c5 : w3.cell? ⟨G + 1, 5, none⟩ = some (.int .i64 x5) := kt.cell 5
    have c6 : w3.cell? ⟨G + 1, 6, none⟩ = some (.int .i64 x6) := kt.cell 6
    have c7 : w3.cell? ⟨G + 1, 7, none⟩ = some (.int .i64 x7) := kt.cell 7
    go_wp2_with fail
    with_reducible refine (LY.out _ (HL.out.below b) (HS.out.below b)).mono ?_
    rintro e w4 ⟨rfl, b2⟩
    replace kg := kg.frm (ex := fun _ => False) (Frm.of_below b2) id
    replace kt := kt.frm (ex := fun _ => False) (Frm.of_below b2) id
    replace b := b.trans (b2.mono b.size)
    clear b2
    clear g0 g1 g2 c0 c1 c2 c3 c4 c5 c6 c7
    have g0 : w4.cell? ⟨G, 0, none⟩ = some (.int .i64 gb) := kg.cell 0
    have g1 : w4.cell? ⟨G, 1, none⟩ = some (.int .i64 gp) := kg.cell 1
    have g2 : w4.cell? ⟨G, 2, none⟩ = some (.int .i64 gs) := kg.cell 2
    have c0 : w4.cell? ⟨G + 1, 0, none⟩ = some (.int .i64 x0) := kt.cell 0
    have c1 : w4.cell? ⟨G + 1, 1, none⟩ = some (.int .i64 x1) := kt.cell 1
    have c2 : w4.cell? ⟨G + 1, 2, none⟩ = some (.int .u64 x2) := kt.cell 2
    have c3 : w4.cell? ⟨G + 1, 3, none⟩ = some (.int .u64 x3) := kt.cell 3
    have c4 : w4.cell? ⟨G + 1, 4, none⟩ = some (.int .i64 x4) := kt.cell 4
    have c5 : w4.cell? ⟨G + 1, 5, none⟩ = some (.int .i64 x5) := kt.cell 5
    have c6 : w4.cell? ⟨G + 1, 6, none⟩ = some (.int .i64 x6) := kt.cell 6
    have c7 : w4.cell? ⟨G + 1, 7, none⟩ = some (.int .i64 x7) := kt.cell 7
    go_wp2_with fail
    with_reducible refine (k1 _).mono ?_
    rintro e w5 ⟨rfl, b2⟩
    replace b := b.trans (b2.mono b.size)
    clear b2 kg kt k1
    clear g0 g1 g2 c0 c1 c2 c3 c4 c5 c6 c7
    go_upto_region 7 with (go_at_call 13; (with_reducible refine (no_any _ _).mono ?_); rintro e w' ⟨rfl, rfl⟩)
    clear he hv
    go_upto_region 14 with (go_at_call 13; (with_reducible refine (no_any _ _).mono ?_); rintro e w' ⟨rfl, rfl⟩)
    by_cases hn : 26 = n
    · obtain ⟨y0, y1, y2, y3, y4, y5, y6, y7, rd, pk⟩ := HRD.out hn
      have LEN := HLN
      subst hn
      go_wp2_with fail
      with_reducible refine (rd _ _ _ (HR.out.below b) (HL.out.below b)).mono ?_
      rintro e wa ⟨rfl, b2⟩
      replace b := b.trans (b2.mono b.size)
      clear b2 rd
      go_upto_region 15 with fail
      obtain ⟨wb, hwb⟩ : ∃ x, x = wa.alloc (.cells #[.int .i64 y0, .int .i64 y1, .int .u64 y2, .int .u64 y3, .int .i64 y4, .int .i64 y5, .int .i64 y6, .int .i64 y7] 25) := ⟨_, rfl⟩
      have ku : Blk wb wa.heap.size 25 [.int .i64 y0, .int .i64 y1, .int .u64 y2, .int .u64 y3, .int .i64 y4, .int .i64 y5, .int .i64 y6, .int .i64 y7] := by rw [hwb]; exact Blk.new wa _ _
      replace b : Below w.heap.size w wb := by rw [hwb]; exact b.alloc b.size _
      rw [← hwb]
      obtain ⟨Z, hZ⟩ : ∃ Z, Z = wa.heap.size := ⟨_, rfl⟩
      rw [← hZ] at ku ⊢
      clear hwb hZ
      have c0 : wb.cell? ⟨Z, 0, none⟩ = some (.int .i64 y0) := ku.cell 0
      have c1 : wb.cell? ⟨Z, 1, none⟩ = some (.int .i64 y1) := ku.cell 1
      have c2 : wb.cell? ⟨Z, 2, none⟩ = some (.int .u64 y2) := ku.cell 2
      have c3 : wb.cell? ⟨Z, 3, none⟩ = some (.int .u64 y3) := ku.cell 3
      have c4 : wb.cell? ⟨Z, 4, none⟩ = some (.int .i64 y4) := ku.cell 4
      have c5 : wb.cell? ⟨Z, 5, none⟩ = some (.int .i64 y5) := ku.cell 5
      have c6 : wb.cell? ⟨Z, 6, none⟩ = some (.int .i64 y6) := ku.cell 6
      have c7 : wb.cell? ⟨Z, 7, none⟩ = some (.int .i64 y7) := ku.cell 7
      go_wp2_with fail
      with_reducible refine (pk _ (HL.out.below b)).mono ?_
      rintro e wd ⟨A9, q9, s9, rfl, o9, b2⟩
      obtain ⟨_, _, er, _, r9⟩ := o9.rd
      cases er
      replace b := b.trans (b2.mono b.size)
      clear b2 o9 ku
      have rb : Rd wd A (u8s l) := HR.out.below b
      go_wp2_with (go_at_call 13; (with_reducible refine (no_any _ _).mono ?_); rintro e w' ⟨rfl, rfl⟩)
      with_reducible refine (same_true A9 A 26 q9 cap l _ LEN.out r9 rb (by omega)).mono ?_
      rintro e we ⟨rfl, hq⟩
      have b2 := bel_drawn hq
      replace b := b.trans (b2.mono b.size)
      go_wp2
      go_ret
      exact ⟨rfl, b⟩
    · have rn := HNO.out hn
      have hn2 : ¬ ((n : Nat) : Int) = 26 := by omega
      go_wp2_with fail
      with_reducible refine (rn _).mono ?_
      rintro e wa ⟨rfl, b2⟩
      replace b := b.trans (b2.mono b.size)
      clear b2 rn
      have b' := b.alloc b.size (.cells #[.int .i64 0, .int .i64 0, .int .u64 0, .int .u64 0, .int .i64 0, .int .i64 0, .int .i64 0, .int .i64 0] 25)
      go_wp2_with (go_at_call 13; (with_reducible refine (no_any _ _).mono ?_); rintro e w' ⟨rfl, rfl⟩)
      go_ret
      exact ⟨rfl, b'⟩
end Go.Proofs.YtekbjcagjkcaiaaDoor
