/- The walk of the law JudgeLess: a judge that cannot be. -/
import Derived.Test.YtagfcndpblekkaaJae
import Derived.Test.YtagfcndpblekkaaJt1
namespace Go.Proofs.Ytagfcndpblekkaa
open Go.RowKit Go.Maps
set_option linter.unusedVariables false
set_option linter.unusedSimpArgs false
/-- The trace that is refused at its second command. -/
def twiceL : List Cmd := [⟨1, 0, 0, 0⟩, ⟨1, 0, 0, 0⟩]
set_option maxRecDepth 100000 in
theorem mk_bools (wx : World) : (Instr.makeSlice 24 (.int .i64 8) (.int .i64 8)).run Try.prog wx = .ok (.slice (some ⟨wx.heap.size, 0, none⟩) 8 8) (wx.alloc (.cells (bls (List.replicate 8 false)).toArray 4)) := by
  obtain ⟨i, hi, hz, hs, hby⟩ := info_parts info4
  have h := run_make (P := Try.prog) wx 24 4 i (.bool false) Try.underlying24 hi hz .i64 .i64 8 8 (by omega) (by omega) (by rw [hby]; omega) (by omega)
  have e : madeCells (Value.bool false).cells ((8 : Int).toNat * i.size) = (bls (List.replicate 8 false)).toArray := by
    rw [hs, show bls (List.replicate 8 false) = List.replicate 8 (Value.bool false) from rfl]
    apply Array.ext
    · simp [madeCells]
    · intro j h1 h2
      simp only [List.getElem_toArray, List.getElem_replicate]
      simp [madeCells, Value.cells, Nat.mod_one]
  rw [e] at h
  exact h
theorem twice_x (A : Option Addr) (A2 : Option Addr) (wx : World) (h1 : Rd wx A (bls (List.replicate 8 false))) (h2 : Rd wx A2 (cmdV twiceL)) :
    Calls Try.prog 20 #[.agg #[.int .i64 8, .int .i64 4, .int .i64 1], .slice A 8 8, .bool true, .slice A2 2 2] wx fun e w' => e = .returned (.tuple #[.int .i64 1, .int .i64 0]) ∧ Below wx.heap.size wx w' := by
  have h := Check_x 8 4 1 A 8 8 (List.replicate 8 false) true A2 2 2 twiceL wx (by simp) h1 rfl h2 (by unfold CmdsI twiceL CmdI I64; intro k hk; simp at hk; rcases k with _ | _ | k <;> first | decide | omega) (by omega)
  rw [show ckX 8 4 1 8 (List.replicate 8 false) true twiceL = 1 by unfold ckX; rw [if_pos new_twice]; exact ck_twice, new_twice] at h
  exact h
set_option maxRecDepth 100000 in
set_option maxHeartbeats 6400000 in
theorem less_no (w : World) (b p s : Int) (A : Option Addr) (n c : Nat) (m : List Bool) (hml : m.length = n) (hr : Rd w A (bls m)) (hm : n ≤ 140737488351232) (clean : Bool) (A2 : Option Addr) (n2 c2 : Nat) (l : List Cmd) (hll : l.length = n2) (hr2 : Rd w A2 (cmdV l)) (hI : CmdsI l) (hm2 : n2 ≤ 4398046510976) (A3 : Option Addr) (n3 c3 : Nat) (blk at_ : Int) (h0 : newE b p s n ≠ 0) :
    Calls Try.prog 7 #[.agg #[.int .i64 b, .int .i64 p, .int .i64 s], .slice A n c, .bool clean, .slice A2 n2 c2, .slice A3 n3 c3, .int .i64 blk, .int .i64 at_] w fun e w' => e = .returned (.bool true) ∧ Below w.heap.size w w' := by
  obtain ⟨w1, hw1⟩ : ∃ x, x = w.alloc (.cells #[.int .i64 b, .int .i64 p, .int .i64 s] 23) := ⟨_, rfl⟩
  have b1 : Below w.heap.size w w1 := by rw [hw1]; exact (Below.refl _ w).alloc (Nat.le_refl _) _
  have kg : Blk w1 w.heap.size 23 [.int .i64 b, .int .i64 p, .int .i64 s] := by rw [hw1]; exact Blk.new w _ [.int .i64 b, .int .i64 p, .int .i64 s]
  obtain ⟨G, hG⟩ : ∃ G, G = w.heap.size := ⟨_, rfl⟩
  rw [← hG] at kg
  have hC1 := fun (A' : Option Addr) (c' : Nat) (A2' : Option Addr) (c2' : Nat) (wx : World) (h1 : Rd wx A' (bls m)) (h2 : Rd wx A2' (cmdV l)) => Check_x b p s A' n c' m clean A2' n2 c2' l wx hml h1 hll h2 hI (by omega)
  have hC2 := fun (A' : Option Addr) (c' : Nat) (A2' : Option Addr) (c2' : Nat) (wx : World) (h1 : Rd wx A' (bls m)) (h2 : Rd wx A2' (cmdV l)) => rCheck_x b p s A' n c' m clean A2' n2 c2' l wx hml h1 hll h2 hI (by omega)
  have hM := fun wx h => marks_any A n c m wx hml h hm
  have hT := fun wx h => trace_any A2 n2 c2 l wx hll h (by omega)
  rw [show ckX b p s n m clean l = 0 by unfold ckX; rw [if_neg h0]] at hC1 hC2
  have hb2 : (newE b p s n != 0) = true := by simpa using h0
  generalize newE b p s n = Y at *
  have H1 := Lib.hid hC1
  have H2 := Lib.hid hC2
  have H3 := Lib.hid hM
  have H4 := Lib.hid hT
  clear hC1 hC2 hM hT hml hll hI h0
  have hmk := mk_bools
  go_enter Try.func7, Try.ntmps7
  go_wp2_with fail
  rw [← hw1, ← hG]
  have hs1 : w1.heap.size = G + 1 := by rw [hw1, hG]; simp
  clear hw1 hmk
  obtain ⟨w1', hw1'⟩ : ∃ x, x = (w1.alloc (.cells (bls [false, false, false, false, false, false, false, false]).toArray 4)).alloc (.cells #[.int .i64 1, .int .i64 0, .int .i64 0, .int .i64 0, .int .i64 1, .int .i64 0, .int .i64 0, .int .i64 0] 33) := ⟨_, rfl⟩
  rw [← hw1']
  clear hG
  have b1' : Below w1.heap.size w1 w1' := by rw [hw1']; exact ((Below.refl _ w1).alloc (Nat.le_refl _) _).alloc (by simp) _
  have r1' : Rd w1' (some ⟨G + 1, 0, none⟩) (bls (List.replicate 8 false)) := by
    rw [hw1', ← hs1]; exact (rd_new w1 4 (bls (List.replicate 8 false))).alloc _
  have r2' : Rd w1' (some ⟨G + 1 + 1, 0, none⟩) (cmdV twiceL) := by
    rw [hw1', ← hs1]
    have h := rd_new (w1.alloc (.cells (bls (List.replicate 8 false)).toArray 4)) 33 (cmdV twiceL)
    rw [show (w1.alloc (.cells (bls (List.replicate 8 false)).toArray 4)).heap.size = w1.heap.size + 1 by simp] at h
    exact h
  clear hs1
  clear hw1'
  with_reducible refine (twice_x (some ⟨G + 1, 0, none⟩) (some ⟨G + 1 + 1, 0, none⟩) w1' r1' r2').mono ?_
  rintro e w2 ⟨rfl, b2⟩
  replace b2 := b1'.trans (b2.mono b1'.size)
  replace kg := kg.bel b2
  replace b2 := b1.trans (b2.mono b1.size)
  clear b1 b1' r1' r2'
  have HRA := Lib.hid (rd_keep (hr.below b2))
  have HRB := Lib.hid (rd_keep (hr2.below b2))
  have KG := Lib.hid (show ∀ wx, Below w2.heap.size w2 wx → wx.cell? ⟨G, 0, none⟩ = some (.int .i64 b) ∧ wx.cell? ⟨G, 1, none⟩ = some (.int .i64 p) ∧ wx.cell? ⟨G, 2, none⟩ = some (.int .i64 s) from fun wx hb => ⟨(kg.bel hb).cell 0, (kg.bel hb).cell 1, (kg.bel hb).cell 2⟩)
  go_upto_region 2 with fail
  go_cut [17, 18] (fun x17 x18 wx => x17 = .int .i64 0 ∧ x18 = .int .i64 Y ∧ Below w2.heap.size w2 wx)
  case first =>
    have b0 : Below w2.heap.size w2 w2.drew := bel_drew (Below.refl _ _)
    go_region_held3 (fun wx => wx.cell? ⟨G, 0, none⟩ = some (.int .i64 b) ∧ wx.cell? ⟨G, 1, none⟩ = some (.int .i64 p) ∧ wx.cell? ⟨G, 2, none⟩ = some (.int .i64 s)) (exact KG.out _ (by assumption)) (first
      | (go_at_call 18; (with_reducible refine (H3.out _ (HRA.out _ b0)).mono ?_); rintro e w3 ⟨g3, c3, sp3, rfl, r3', h31, _, h32, h33, b3⟩; have r3 := rd_two r3'; (try replace r4 := r4.below b3); replace b0 := b0.trans (b3.mono b0.size); clear b3 r3'; dsimp only)
      | (go_at_call 19; (with_reducible refine (H4.out _ (HRB.out _ b0)).mono ?_); rintro e w4 ⟨g4, c4, sp4, rfl, r4', h41, _, h42, h43, b4⟩; have r4 := rd_two r4'; (try replace r3 := r3.below b4); replace b0 := b0.trans (b4.mono b0.size); clear b4 r4'; dsimp only)
      | (go_at_call 20; (with_reducible refine (H1.out _ _ _ _ _ r3 r4).mono ?_); rintro e w5 ⟨rfl, b5⟩; replace b0 := b0.trans (b5.mono b0.size); clear b5 r3 r4; dsimp only))
    all_goals
      go_wp2_with fail
      go_meet
      exact ⟨rfl, rfl, b0⟩
  case rest =>
  obtain ⟨rfl, rfl, b6⟩ := hcut
  generalize wc = w6 at *
  obtain ⟨k0, k1, k2⟩ := KG.out _ b6
  go_wp2_with fail
  with_reducible refine (H2.out A c A2 c2 w6 (HRA.out _ b6) (HRB.out _ b6)).mono ?_
  rintro e w7 ⟨rfl, b7⟩
  replace b7 := b6.trans (b7.mono b6.size)
  clear b6 k0 k1 k2
  go_wp2
  go_ret
  exact ⟨rfl, b2.trans (b7.mono b2.size)⟩
end Go.Proofs.Ytagfcndpblekkaa
