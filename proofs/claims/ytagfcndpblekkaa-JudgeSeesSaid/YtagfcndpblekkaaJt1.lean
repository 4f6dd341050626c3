/- The walk of the law JudgeTurns: a judge that cannot be. -/
import Derived.Test.YtagfcndpblekkaaJae
import Derived.Test.YtagfcndpblekkaaJpl
namespace Go.Proofs.Ytagfcndpblekkaa
open Go.RowKit Go.Maps
set_option linter.unusedVariables false
set_option linter.unusedSimpArgs false
theorem rd_two {w : World} {g : Nat} {t : TypeId} {xs ys sp : List Value} (h : Blk w g t (xs ++ ys ++ sp)) : Rd w (some ⟨g, 0, none⟩) xs := rd_left (rd_left (Rd.of_blk (sp := []) (by rw [List.append_nil]; exact h)))
theorem rd_keep {w : World} {A : Option Addr} {xs : List Value} (h : Rd w A xs) : ∀ wx, Below w.heap.size w wx → Rd wx A xs := fun wx hb => h.below hb
set_option maxRecDepth 100000 in
set_option maxHeartbeats 6400000 in
theorem turns_no (w : World) (b p s : Int) (A : Option Addr) (n c : Nat) (m : List Bool) (hml : m.length = n) (hr : Rd w A (bls m)) (hm : n ≤ 140737488351232) (clean : Bool) (A2 : Option Addr) (n2 c2 : Nat) (l : List Cmd) (hll : l.length = n2) (hr2 : Rd w A2 (cmdV l)) (hI : CmdsI l) (hm2 : n2 ≤ 4398046510976) (A3 : Option Addr) (n3 c3 : Nat) (h0 : newE b p s n ≠ 0) :
    Calls Try.prog 5 #[.agg #[.int .i64 b, .int .i64 p, .int .i64 s], .slice A n c, .bool clean, .slice A2 n2 c2, .slice A3 n3 c3] w fun e w' => e = .returned (.bool true) ∧ Below w.heap.size w w' := by
  obtain ⟨w1, hw1⟩ : ∃ x, x = w.alloc (.cells #[.int .i64 b, .int .i64 p, .int .i64 s] 23) := ⟨_, rfl⟩
  have b1 : Below w.heap.size w w1 := by rw [hw1]; exact (Below.refl _ w).alloc (Nat.le_refl _) _
  have kg : Blk w1 w.heap.size 23 [.int .i64 b, .int .i64 p, .int .i64 s] := by rw [hw1]; exact Blk.new w _ [.int .i64 b, .int .i64 p, .int .i64 s]
  obtain ⟨G, hG⟩ : ∃ G, G = w.heap.size := ⟨_, rfl⟩
  rw [← hG] at kg
  have hC1 := fun (A' : Option Addr) (c' : Nat) (A2' : Option Addr) (c2' : Nat) (wx : World) (h1 : Rd wx A' (bls m)) (h2 : Rd wx A2' (cmdV l)) => Check_x b p s A' n c' m clean A2' n2 c2' l wx hml h1 hll h2 hI (by omega)
  rw [show ckX b p s n m clean l = 0 by unfold ckX; rw [if_neg h0]] at hC1
  have hRN := fun wx => rNew_any b p s A n c wx
  have hNo := fun (A' : Option Addr) (c' : Nat) (cl : Bool) wx => New_no b p s A' n c' cl wx h0
  have hb1 : (newE b p s n == 0) = false := by simpa using h0
  have hb2 : (newE b p s n != 0) = true := by simpa using h0
  generalize newE b p s n = Y at *
  have hM := fun wx h => marks_any A n c m wx hml h hm
  have hT := fun wx h => trace_any A2 n2 c2 l wx hll h (by omega)
  have H1 := Lib.hid hC1
  have H2 := Lib.hid hRN
  have H3 := Lib.hid hM
  have H4 := Lib.hid hT
  have H5 := Lib.hid hNo
  clear hC1 hRN hM hT hNo hml hll hI h0
  have k0 : w1.cell? ⟨G, 0, none⟩ = some (.int .i64 b) := kg.cell 0
  have k1 : w1.cell? ⟨G, 1, none⟩ = some (.int .i64 p) := kg.cell 1
  have k2 : w1.cell? ⟨G, 2, none⟩ = some (.int .i64 s) := kg.cell 2
  go_enter Try.func5, Try.ntmps5
  go_wp2_with fail
  rw [← hw1, ← hG]
  clear hw1 hG
  with_reducible refine (H2.out w1).mono ?_
  rintro e w2 ⟨rfl, b2⟩
  replace kg := kg.bel b2
  replace b2 := b1.trans (b2.mono b1.size)
  clear b1 k0 k1 k2
  have HRA := Lib.hid (rd_keep (hr.below b2))
  have HRB := Lib.hid (rd_keep (hr2.below b2))
  have KG := Lib.hid (show ∀ wx, Below w2.heap.size w2 wx → wx.cell? ⟨G, 0, none⟩ = some (.int .i64 b) ∧ wx.cell? ⟨G, 1, none⟩ = some (.int .i64 p) ∧ wx.cell? ⟨G, 2, none⟩ = some (.int .i64 s) from fun wx hb => ⟨(kg.bel hb).cell 0, (kg.bel hb).cell 1, (kg.bel hb).cell 2⟩)
  go_upto_region 2 with fail
  go_cut [12, 13] (fun x12 x13 wx => x12 = .int .i64 0 ∧ x13 = .int .i64 Y ∧ Below w2.heap.size w2 wx)
  case first =>
    have b0 : Below w2.heap.size w2 w2.drew := bel_drew (Below.refl _ _)
    go_region_held3 (fun wx => wx.cell? ⟨G, 0, none⟩ = some (.int .i64 b) ∧ wx.cell? ⟨G, 1, none⟩ = some (.int .i64 p) ∧ wx.cell? ⟨G, 2, none⟩ = some (.int .i64 s)) (exact KG.out _ (by assumption)) (first
      | (go_at_call 18; (with_reducible refine (H3.out _ (HRA.out _ b0)).mono ?_); rintro e w3 ⟨g3, c3, sp3, rfl, r3', h31, _, h32, h33, b3⟩; have r3 := rd_two r3'; (try replace r4 := r4.below b3); replace b0 := b0.trans (b3.mono b0.size); clear b3 r3'; dsimp only)
      | (go_at_call 19; (with_reducible refine (H4.out _ (HRB.out _ b0)).mono ?_); rintro e w4 ⟨g4, c4, sp4, rfl, r4', h41, _, h42, h43, b4⟩; have r4 := rd_two r4'; (try replace r3 := r3.below b4); replace b0 := b0.trans (b4.mono b0.size); clear b4 r4'; dsimp only)
      | (go_at_call 20; (with_reducible refine (H1.out _ _ _ _ _ r3 r4).mono ?_); rintro e w5 ⟨rfl, b5⟩; replace b0 := b0.trans (b5.mono b0.size); clear b5 r3 r4; dsimp only))
    all_goals
      go_wp2_with fail
      go_meet
      exact ⟨rfl, rfl, b0⟩
  case rest =>
  obtain ⟨rfl, rfl, b6⟩ := hcut
  generalize wc = w6 at *
  go_upto_region 3 with fail
  go_cut [14, 15] (fun x14 x15 wx => x14 = .pointer none ∧ x15 = .int .i64 Y ∧ Below w2.heap.size w2 wx)
  case first =>
    have b0 : Below w2.heap.size w2 w6.drew := bel_drew b6
    go_region_held3 (fun wx => wx.cell? ⟨G, 0, none⟩ = some (.int .i64 b) ∧ wx.cell? ⟨G, 1, none⟩ = some (.int .i64 p) ∧ wx.cell? ⟨G, 2, none⟩ = some (.int .i64 s)) (exact KG.out _ (by assumption)) (first
      | (go_at_call 18; (with_reducible refine (H3.out _ (HRA.out _ b0)).mono ?_); rintro e w3 ⟨g3, c3, sp3, rfl, r3', h31, _, h32, h33, b3⟩; have r3 := rd_two r3'; (try replace r4 := r4.below b3); replace b0 := b0.trans (b3.mono b0.size); clear b3 r3'; dsimp only)
      | (go_at_call 24; (with_reducible refine (H5.out _ _ _ _).mono ?_); rintro e w5 ⟨rfl, b5⟩; replace b0 := b0.trans (b5.mono b0.size); clear b5 r3; dsimp only))
    all_goals
      go_wp2_with fail
      go_meet
      exact ⟨rfl, rfl, b0⟩
  case rest =>
  obtain ⟨rfl, rfl, b7⟩ := hcut
  generalize wc = w7 at *
  go_upto_region 4 with fail
  go_cut [16, 17] (fun x16 x17 wx => x16 = .pointer none ∧ x17 = .int .i64 Y ∧ Below w2.heap.size w2 wx)
  case first =>
    have b0 : Below w2.heap.size w2 w7.drew := bel_drew b7
    go_region_held3 (fun wx => wx.cell? ⟨G, 0, none⟩ = some (.int .i64 b) ∧ wx.cell? ⟨G, 1, none⟩ = some (.int .i64 p) ∧ wx.cell? ⟨G, 2, none⟩ = some (.int .i64 s)) (exact KG.out _ (by assumption)) (first
      | (go_at_call 18; (with_reducible refine (H3.out _ (HRA.out _ b0)).mono ?_); rintro e w3 ⟨g3, c3, sp3, rfl, r3', h31, _, h32, h33, b3⟩; have r3 := rd_two r3'; (try replace r4 := r4.below b3); replace b0 := b0.trans (b3.mono b0.size); clear b3 r3'; dsimp only)
      | (go_at_call 24; (with_reducible refine (H5.out _ _ _ _).mono ?_); rintro e w5 ⟨rfl, b5⟩; replace b0 := b0.trans (b5.mono b0.size); clear b5 r3; dsimp only))
    all_goals
      go_wp2_with fail
      go_meet
      exact ⟨rfl, rfl, b0⟩
  case rest =>
  obtain ⟨rfl, rfl, b8⟩ := hcut
  generalize wc = w8 at *
  go_wp2
  go_ret
  exact ⟨rfl, b2.trans (b8.mono b2.size)⟩
end Go.Proofs.Ytagfcndpblekkaa
