/- The law TagsWider: its walk. -/
import Derived.Test.YtekbjcagjkcaiaaDoorTi
namespace Go.Proofs.YtekbjcagjkcaiaaDoor
open Go.RowKit
set_option linter.unusedVariables false
set_option linter.unusedSimpArgs false
theorem chk_vals (b p s k f se be o c n z : Int) : chk b p s k f se be o c n z = 0 ∨ chk b p s k f se be o c n z = 40 ∨ chk b p s k f se be o c n z = 61 := by
  unfold chk
  split
  · split
    · exact .inl rfl
    · exact .inr (.inr rfl)
  · exact .inr (.inl rfl)
theorem chk_zero {b p s k f se be o c n z : Int} (h : chk b p s k f se be o c n z = 0) : shp b p s = true ∧ (1 ≤ k ∧ k ≤ 4) ∧ (1 ≤ se ∧ se ≤ 281474976710655 ∧ 1 ≤ be ∧ be ≤ se) ∧ (0 ≤ z ∧ z ≤ 2072 * s ∧ n ≤ 256 * s) ∧ mayS k f o c n = true := by
  unfold chk at h
  split at h
  · rename_i h1
    split at h
    · rename_i h2; exact ⟨h1, h2⟩
    · cases h
  · cases h
theorem chk_big {b p s m k f se be o c n z : Int} (h2 : 8 < s + m) : chk b p (s + m) k f se be o c n z = 40 := by
  unfold chk
  rw [if_neg]
  unfold shp
  intro h3
  have h4 := of_decide_eq_true h3
  omega
theorem chk_wide {b p s m k f se be o c n z : Int} (h : chk b p s k f se be o c n z = 0) (h1 : 0 ≤ m) (h2 : s + m ≤ 8) : chk b p (s + m) k f se be o c n z = 0 := by
  obtain ⟨hs, hk, hse, hz, hm⟩ := chk_zero h
  have h4 := of_decide_eq_true hs
  have hs2 : shp b p (s + m) = true := decide_eq_true ⟨h4.1, h4.2.1, h4.2.2.1, h4.2.2.2.1, by omega, h2, h4.2.2.2.2.2.2⟩
  unfold chk
  rw [if_pos hs2, if_pos ⟨hk, hse, by omega, hm⟩]
set_option maxRecDepth 100000 in
set_option maxHeartbeats 6400000 in
theorem wider_walk (w : World) (gb gp gs : Int) (hb : -9223372036854775808 ≤ gb ∧ gb ≤ 9223372036854775807) (hp : -9223372036854775808 ≤ gp ∧ gp ≤ 9223372036854775807) (hs : -9223372036854775808 ≤ gs ∧ gs ≤ 9223372036854775807) (x0 x1 x2 x3 x4 x5 x6 x7 : Int) (h0 : -9223372036854775808 ≤ x0 ∧ x0 ≤ 9223372036854775807) (h1 : -9223372036854775808 ≤ x1 ∧ x1 ≤ 9223372036854775807) (h2 : 0 ≤ x2 ∧ x2 ≤ 18446744073709551615) (h3 : 0 ≤ x3 ∧ x3 ≤ 18446744073709551615) (h4 : -9223372036854775808 ≤ x4 ∧ x4 ≤ 9223372036854775807) (h5 : -9223372036854775808 ≤ x5 ∧ x5 ≤ 9223372036854775807) (h6 : -9223372036854775808 ≤ x6 ∧ x6 ≤ 9223372036854775807) (h7 : -9223372036854775808 ≤ x7 ∧ x7 ≤ 9223372036854775807) (more : Int) (hm1 : -9223372036854775808 ≤ more) (hm2 : more ≤ 9223372036854775807) (hT : LayT w ∧ SpT w) :
    Calls Tryd.prog 8 #[.agg #[.int .i64 gb, .int .i64 gp, .int .i64 gs], .agg #[.int .i64 x0, .int .i64 x1, .int .u64 x2, .int .u64 x3, .int .i64 x4, .int .i64 x5, .int .i64 x6, .int .i64 x7], .int .i64 more] w fun e w' => e = .returned (.bool true) ∧ Below w.heap.size w w' := by
  have hL := hT.1
  have hS := hT.2
  have k1 := fun wx => check_any gb gp gs x0 x1 x2 x3 x4 x5 x6 x7 h4.2 wx
  have k2 := fun wx => check_any gb gp (wrap64 (gs + more)) x0 x1 x2 x3 x4 x5 x6 x7 h4.2 wx
  have hv := chk_vals gb gp gs x0 x1 x2 x3 x4 x5 x6 x7
  have hz := fun (h : chk gb gp gs x0 x1 x2 x3 x4 x5 x6 x7 = 0) => chk_zero h
  have hbig : 0 ≤ more → more ≤ 8 → chk gb gp gs x0 x1 x2 x3 x4 x5 x6 x7 = 0 → wrap64 (gs + more) = gs + more ∧ (8 < gs + more → chk gb gp (wrap64 (gs + more)) x0 x1 x2 x3 x4 x5 x6 x7 = 40) ∧ (gs + more ≤ 8 → chk gb gp (wrap64 (gs + more)) x0 x1 x2 x3 x4 x5 x6 x7 = 0) := fun a1 a2 a3 => by
    have a4 := shp_s (chk_zero a3).1
    have e : wrap64 (gs + more) = gs + more := by unfold wrap64; omega
    rw [e]
    exact ⟨rfl, fun q => chk_big q, fun q => chk_wide a3 a1 q⟩
  have HBG := Lib.hid hbig
  have HZ := Lib.hid hz
  have hsw : ∀ h : chk gb gp gs x0 x1 x2 x3 x4 x5 x6 x7 = 0, wrap64 (256 * gs) = 256 * gs := fun h => (wrap_s (chk_zero h).1).2
  have HSW := Lib.hid hsw
  generalize chk gb gp gs x0 x1 x2 x3 x4 x5 x6 x7 = e1 at *
  have hwm : IntKind.i64.wrap (gs + more) = wrap64 (gs + more) := by unfold wrap64; rw [IntKind.wrap_i64]
  generalize chk gb gp (wrap64 (gs + more)) x0 x1 x2 x3 x4 x5 x6 x7 = e2 at *
  obtain ⟨w1, hw1⟩ : ∃ x, x = (w.alloc (.cells #[.int .i64 gb, .int .i64 gp, .int .i64 gs] 46)).alloc (.cells #[.int .i64 x0, .int .i64 x1, .int .u64 x2, .int .u64 x3, .int .i64 x4, .int .i64 x5, .int .i64 x6, .int .i64 x7] 25) := ⟨_, rfl⟩
  have b : Below w.heap.size w w1 := by rw [hw1]; exact ((Below.refl _ w).alloc (Nat.le_refl _) _).alloc (by simp) _
  have kg : Blk w1 w.heap.size 46 [.int .i64 gb, .int .i64 gp, .int .i64 gs] := by rw [hw1]; exact (Blk.new w 46 [.int .i64 gb, .int .i64 gp, .int .i64 gs]).alloc _
  have kt : Blk w1 (w.heap.size + 1) 25 [.int .i64 x0, .int .i64 x1, .int .u64 x2, .int .u64 x3, .int .i64 x4, .int .i64 x5, .int .i64 x6, .int .i64 x7] := by
    have h := Blk.new (w.alloc (.cells #[.int .i64 gb, .int .i64 gp, .int .i64 gs] 46)) 25 [.int .i64 x0, .int .i64 x1, .int .u64 x2, .int .u64 x3, .int .i64 x4, .int .i64 x5, .int .i64 x6, .int .i64 x7]
    rw [World.size_alloc] at h
    rw [hw1]; exact h
  have hh := heads_any w1 (hL.below b) (hS.below b)
  obtain ⟨G, hG⟩ : ∃ G, G = w.heap.size := ⟨_, rfl⟩
  rw [← hG] at kg kt
  clear hT hL hS hbig hz hsw h0 h1 h2 h3 h4 h5 h6 h7 hb hp
  go_enter Tryd.func8, Tryd.ntmps8
  go_wp2_with fail
  rw [← hw1, ← hG]
  clear hw1 hG
  with_reducible refine hh.mono ?_
  rintro e w2 ⟨rfl, b2⟩
  replace kg := kg.frm (ex := fun _ => False) (Frm.of_below b2) id
  replace kt := kt.frm (ex := fun _ => False) (Frm.of_below b2) id
  replace b := b.trans (b2.mono b.size)
  clear b2 hh
  have g0 : w2.cell? ⟨G, 0, none⟩ = some (.int .i64 gb) := kg.cell 0
  have g1 : w2.cell? ⟨G, 1, none⟩ = some (.int .i64 gp) := kg.cell 1
  have g2 : w2.cell? ⟨G, 2, none⟩ = some (.int .i64 gs) := kg.cell 2
  have c0 : w2.cell? ⟨G + 1, 0, none⟩ = some (.int .i64 x0) := kt.cell 0
  have c1 : w2.cell? ⟨G + 1, 1, none⟩ = some (.int .i64 x1) := kt.cell 1
  have c2 : w2.cell? ⟨G + 1, 2, none⟩ = some (.int .u64 x2) := kt.cell 2
  have c3 : w2.cell? ⟨G + 1, 3, none⟩ = some (.int .u64 x3) := kt.cell 3
  have c4 : w2.cell? ⟨G + 1, 4, none⟩ = some (.int .i64 x4) := kt.cell 4
  have c5 : w2.cell? ⟨G + 1, 5, none⟩ = some (.int .i64 x5) := kt.cell 5
  have c6 : w2.cell? ⟨G + 1, 6, none⟩ = some (.int .i64 x6) := kt.cell 6
  have c7 : w2.cell? ⟨G + 1, 7, none⟩ = some (.int .i64 x7) := kt.cell 7
  go_upto_region 5 with fail
  obtain ⟨ws, hws⟩ : ∃ x, x = wrap64 (gs + more) := ⟨_, rfl⟩
  rw [← hws]
  rw [← hws] at k2 HBG
  clear hws hwm
  obtain ⟨w3, hw3⟩ : ∃ x, x = w2.alloc (.cells #[.int .i64 gb, .int .i64 gp, .int .i64 ws] 46) := ⟨_, rfl⟩
  have kh : Blk w3 w2.heap.size 46 [.int .i64 gb, .int .i64 gp, .int .i64 ws] := by rw [hw3]; exact Blk.new w2 _ _
  replace kg : Blk w3 G 46 [.int .i64 gb, .int .i64 gp, .int .i64 gs] := by rw [hw3]; exact kg.alloc _
  replace kt : Blk w3 (G + 1) 25 [.int .i64 x0, .int .i64 x1, .int .u64 x2, .int .u64 x3, .int .i64 x4, .int .i64 x5, .int .i64 x6, .int .i64 x7] := by rw [hw3]; exact kt.alloc _
  replace b : Below w.heap.size w w3 := by rw [hw3]; exact b.alloc b.size _
  rw [← hw3]
  obtain ⟨H, hH⟩ : ∃ H, H = w2.heap.size := ⟨_, rfl⟩
  rw [← hH] at kh ⊢
  clear hw3 hH
  clear g0 g1 g2 c0 c1 c2 c3 c4 c5 c6 c7
  have g0 : w3.cell? ⟨G, 0, none⟩ = some (.int .i64 gb) := kg.cell 0
  have g1 : w3.cell? ⟨G, 1, none⟩ = some (.int .i64 gp) := kg.cell 1
  have g2 : w3.cell? ⟨G, 2, none⟩ = some (.int .i64 gs) := kg.cell 2
  have c0 : w3.cell? ⟨G + 1, 0, none⟩ = some (.int .i64 x0) := kt.cell 0
  have c1 : w3.cell? ⟨G + 1, 1, none⟩ = some (.int .i64 x1) := kt.cell 1
  have c2 : w3.cell? ⟨G + 1, 2, none⟩ = some (.int .u64 x2) := kt.cell 2
  have c3 : w3.cell? ⟨G + 1, 3, none⟩ = some (.int .u64 x3) := kt.cell 3
  have c4 : w3.cell? ⟨G + 1, 4, none⟩ = some (.int .i64 x4) := kt.cell 4
  have c5 : w3.cell? ⟨G + 1, 5, none⟩ = some (.int .i64 x5) := kt.cell 5
  have c6 : w3.cell? ⟨G + 1, 6, none⟩ = some (.int .i64 x6) := kt.cell 6
  have c7 : w3.cell? ⟨G + 1, 7, none⟩ = some (.int .i64 x7) := kt.cell 7
  go_wp2_with fail
  with_reducible refine (k1 _).mono ?_
  rintro e w4 ⟨rfl, b4⟩
  replace kg := kg.frm (ex := fun _ => False) (Frm.of_below b4) id
  replace kt := kt.frm (ex := fun _ => False) (Frm.of_below b4) id
  replace kh := kh.frm (ex := fun _ => False) (Frm.of_below b4) id
  replace b := b.trans (b4.mono b.size)
  clear b4 k1
  clear g0 g1 g2 c0 c1 c2 c3 c4 c5 c6 c7
  have g0 : w4.cell? ⟨G, 0, none⟩ = some (.int .i64 gb) := kg.cell 0
  have g1 : w4.cell? ⟨G, 1, none⟩ = some (.int .i64 gp) := kg.cell 1
  have g2 : w4.cell? ⟨G, 2, none⟩ = some (.int .i64 gs) := kg.cell 2
  have c0 : w4.cell? ⟨G + 1, 0, none⟩ = some (.int .i64 x0) := kt.cell 0
  have c1 : w4.cell? ⟨G + 1, 1, none⟩ = some (.int .i64 x1) := kt.cell 1
  have c2 : w4.cell? ⟨G + 1, 2, none⟩ = some (.int .u64 x2) := kt.cell 2
  have c3 : w4.cell? ⟨G + 1, 3, none⟩ = some (.int .u64 x3) := kt.cell 3
  have c4 : w4.cell? ⟨G + 1, 4, none⟩ = some (.int .i64 x4) := kt.cell 4
  have c5 : w4.cell? ⟨G + 1, 5, none⟩ = some (.int .i64 x5) := kt.cell 5
  have c6 : w4.cell? ⟨G + 1, 6, none⟩ = some (.int .i64 x6) := kt.cell 6
  have c7 : w4.cell? ⟨G + 1, 7, none⟩ = some (.int .i64 x7) := kt.cell 7
  have a0 : w4.cell? ⟨H, 0, none⟩ = some (.int .i64 gb) := kh.cell 0
  have a1 : w4.cell? ⟨H, 1, none⟩ = some (.int .i64 gp) := kh.cell 1
  have a2 : w4.cell? ⟨H, 2, none⟩ = some (.int .i64 ws) := kh.cell 2
  go_wp2_with fail
  with_reducible refine (k2 _).mono ?_
  rintro e w5 ⟨rfl, b5⟩
  replace kg := kg.frm (ex := fun _ => False) (Frm.of_below b5) id
  replace kt := kt.frm (ex := fun _ => False) (Frm.of_below b5) id
  replace kh := kh.frm (ex := fun _ => False) (Frm.of_below b5) id
  replace b := b.trans (b5.mono b.size)
  clear b5 k2 a0 a1 a2
  clear g0 g1 g2 c0 c1 c2 c3 c4 c5 c6 c7
  have g0 : w5.cell? ⟨G, 0, none⟩ = some (.int .i64 gb) := kg.cell 0
  have g1 : w5.cell? ⟨G, 1, none⟩ = some (.int .i64 gp) := kg.cell 1
  have g2 : w5.cell? ⟨G, 2, none⟩ = some (.int .i64 gs) := kg.cell 2
  have c0 : w5.cell? ⟨G + 1, 0, none⟩ = some (.int .i64 x0) := kt.cell 0
  have c1 : w5.cell? ⟨G + 1, 1, none⟩ = some (.int .i64 x1) := kt.cell 1
  have c2 : w5.cell? ⟨G + 1, 2, none⟩ = some (.int .u64 x2) := kt.cell 2
  have c3 : w5.cell? ⟨G + 1, 3, none⟩ = some (.int .u64 x3) := kt.cell 3
  have c4 : w5.cell? ⟨G + 1, 4, none⟩ = some (.int .i64 x4) := kt.cell 4
  have c5 : w5.cell? ⟨G + 1, 5, none⟩ = some (.int .i64 x5) := kt.cell 5
  have c6 : w5.cell? ⟨G + 1, 6, none⟩ = some (.int .i64 x6) := kt.cell 6
  have c7 : w5.cell? ⟨G + 1, 7, none⟩ = some (.int .i64 x7) := kt.cell 7
  have a2 : w5.cell? ⟨H, 2, none⟩ = some (.int .i64 ws) := kh.cell 2
  clear kg kt kh
  by_cases he : e1 = 0
  · have hz := HZ.out he
    have hsw := HSW.out he
    by_cases hl : more < 0
    · subst he
      clear hv hz hsw
      go_wp2_with (go_at_call 13; (with_reducible refine (no_any _ _).mono ?_); rintro e w' ⟨rfl, rfl⟩)
      go_ret
      exact ⟨rfl, b⟩
    · by_cases hg8 : 8 < more
      · subst he
        clear hv hz hsw
        go_wp2_with (go_at_call 13; (with_reducible refine (no_any _ _).mono ?_); rintro e w' ⟨rfl, rfl⟩)
        go_ret
        exact ⟨rfl, b⟩
      · obtain ⟨q1, q2, q3⟩ := HBG.out (by omega) (by omega) he
        subst he
        by_cases h8 : 8 < gs + more
        · have e40 := q2 h8
          subst e40
          have hw8 : 8 < ws := by omega
          clear hv hz hsw q1 q2 q3
          go_wp2_with (go_at_call 13; (with_reducible refine (no_any _ _).mono ?_); rintro e w' ⟨rfl, rfl⟩)
          go_ret
          exact ⟨rfl, b⟩
        · have e0 := q3 (by omega)
          subst e0
          have hw8 : ¬ 8 < ws := by omega
          obtain ⟨_, ⟨z1, z2⟩, ⟨_, _, _, z3⟩, ⟨_, _, z4⟩, _⟩ := hz
          have hsi : IntKind.i64.wrap (256 * gs) = 256 * gs := by rw [IntKind.wrap_i64]; unfold wrap64 at hsw; exact hsw
          clear hv q1 q2 q3
          go_wp2_with (go_at_call 13; (with_reducible refine (no_any _ _).mono ?_); rintro e w' ⟨rfl, rfl⟩)
          go_ret
          exact ⟨rfl, b⟩
  · rcases hv with h | h | h
    · exact absurd h he
    · subst h
      go_wp2_with (go_at_call 13; (with_reducible refine (no_any _ _).mono ?_); rintro e w' ⟨rfl, rfl⟩)
      go_ret
      exact ⟨rfl, b⟩
    · subst h
      go_wp2_with (go_at_call 13; (with_reducible refine (no_any _ _).mono ?_); rintro e w' ⟨rfl, rfl⟩)
      go_ret
      exact ⟨rfl, b⟩
end Go.Proofs.YtekbjcagjkcaiaaDoor
