/- Walks of judge's See: refused, a program, a mark. -/
import Derived.Test.YtagfcndpblekkaaJt
namespace Go.Proofs.Ytagfcndpblekkaa
open Go.RowKit Go.Maps
set_option linter.unusedVariables false
set_option linter.unusedSimpArgs false
/-- What See does. -/
def SeeP (a : JA) (Bn : Nat) (b p s : Int) (J : JS) (n : Nat) (r : Bool) (w : World) (e : Ending) (w' : World) : Prop :=
  e = .returned (.bool r) ∧ JP w' a Bn b p s J n ∧ Frm a.own w w'
set_option maxRecDepth 100000 in
set_option maxHeartbeats 6400000 in
theorem See_no (a : JA) (Bn : Nat) (b p s : Int) (J : JS) (n : Nat) (c : Cmd) (w : World) (h : JP w a Bn b p s J n) (hB : b = Bn) (hc : CmdI c) (hf : J.fl.length = Bn) (ht : J.tp.length = Bn) (hk : kpP b p J c = false) :
    Calls Try.prog 10 #[.pointer (some ⟨a.q, 0, none⟩), .agg #[.int .i64 c.k, .int .i64 c.b, .int .i64 c.p, .int .i64 c.s]] w (SeeP a Bn b p s J n false w) := by
  obtain ⟨w1, hw1⟩ : ∃ x, x = w.alloc (.cells #[.int .i64 c.k, .int .i64 c.b, .int .i64 c.p, .int .i64 c.s] 33) := ⟨_, rfl⟩
  have b1 : Below w.heap.size w w1 := by rw [hw1]; exact (Below.refl _ w).alloc (Nat.le_refl _) _
  have kc : Blk w1 w.heap.size 33 [.int .i64 c.k, .int .i64 c.b, .int .i64 c.p, .int .i64 c.s] := by rw [hw1]; exact Blk.new w _ [.int .i64 c.k, .int .i64 c.b, .int .i64 c.p, .int .i64 c.s]
  have h1 := h.bel b1
  obtain ⟨G, hG⟩ : ∃ G, G = w.heap.size := ⟨_, rfl⟩
  rw [← hG] at kc
  have hkp := keeps_any a Bn b p s J n c w1 h1 hB hc hf ht
  rw [hk] at hkp
  have k0 : w1.cell? ⟨G, 0, none⟩ = some (.int .i64 c.k) := kc.cell 0
  have k1 : w1.cell? ⟨G, 1, none⟩ = some (.int .i64 c.b) := kc.cell 1
  have k2 : w1.cell? ⟨G, 2, none⟩ = some (.int .i64 c.p) := kc.cell 2
  have k3 : w1.cell? ⟨G, 3, none⟩ = some (.int .i64 c.s) := kc.cell 3
  clear h hc hf ht hk kc hB
  go_enter Try.func10, Try.ntmps10
  go_wp2_with fail
  rw [← hw1, ← hG]
  clear hw1 hG
  with_reducible refine hkp.mono ?_
  rintro e w2 ⟨rfl, b2⟩
  have h2 := h1.bel b2
  have hf2 : Frm a.own w w2 := (Frm.of_below b1).trans (Frm.of_below b2)
  clear hkp h1 k0 k1 k2 k3
  go_wp2
  go_ret
  exact ⟨rfl, h2, hf2⟩
set_option maxRecDepth 100000 in
set_option maxHeartbeats 6400000 in
theorem See_1 (a : JA) (Bn : Nat) (b p s : Int) (J : JS) (n : Nat) (c : Cmd) (w : World) (h : JP w a Bn b p s J n) (hB : b = Bn) (hc : CmdI c) (hf : J.fl.length = Bn) (ht : J.tp.length = Bn) (hn : n < maxLen) (hp : p ≤ 256) (hk : KpP b p J c) (hk1 : c.k = 1) :
    Calls Try.prog 10 #[.pointer (some ⟨a.q, 0, none⟩), .agg #[.int .i64 c.k, .int .i64 c.b, .int .i64 c.p, .int .i64 c.s]] w (SeeP a Bn b p s (stP p J c) (n + 1) true w) := by
  obtain ⟨w1, hw1⟩ : ∃ x, x = w.alloc (.cells #[.int .i64 c.k, .int .i64 c.b, .int .i64 c.p, .int .i64 c.s] 33) := ⟨_, rfl⟩
  have b1 : Below w.heap.size w w1 := by rw [hw1]; exact (Below.refl _ w).alloc (Nat.le_refl _) _
  have kc : Blk w1 w.heap.size 33 [.int .i64 c.k, .int .i64 c.b, .int .i64 c.p, .int .i64 c.s] := by rw [hw1]; exact Blk.new w _ [.int .i64 c.k, .int .i64 c.b, .int .i64 c.p, .int .i64 c.s]
  have hGo : ¬ a.own w.heap.size := fun hh => by have := h.lt _ hh; omega
  have h1 := h.bel b1
  obtain ⟨G, hG⟩ : ∃ G, G = w.heap.size := ⟨_, rfl⟩
  rw [← hG] at kc hGo
  have hkp := keeps_any a Bn b p s J n c w1 h1 hB hc hf ht
  rw [show kpP b p J c = true from decide_eq_true hk] at hkp
  have k0 : w1.cell? ⟨G, 0, none⟩ = some (.int .i64 c.k) := kc.cell 0
  have k1 : w1.cell? ⟨G, 1, none⟩ = some (.int .i64 c.b) := kc.cell 1
  have k2 : w1.cell? ⟨G, 2, none⟩ = some (.int .i64 c.p) := kc.cell 2
  have k3 : w1.cell? ⟨G, 3, none⟩ = some (.int .i64 c.s) := kc.cell 3
  have hst : stP p J c = { J with tr := fun x y => if x = c.b ∧ y = c.p then 1 else J.tr x y, tp := J.tp.set c.b.toNat (c.p + 1) } := by unfold stP; rw [if_pos hk1]
  rw [hst]
  obtain ⟨_, ⟨hb0, hbB⟩, _, _, h5⟩ := hk
  obtain ⟨_, hpp, _⟩ := h5 hk1
  obtain ⟨i0, i1, i2, i3⟩ := hc
  have HI1 := Lib.hid i1
  have HI2 := Lib.hid i2
  have HT := Lib.hid ht
  obtain ⟨kb, hkb⟩ : ∃ kb : Nat, c.b = kb := ⟨c.b.toNat, by omega⟩
  have hkl : kb < Bn := by omega
  have hkli : (kb : Int) < (Bn : Int) := by omega
  have hwp : IntKind.i64.wrap (c.p + 1) = c.p + 1 := by rw [IntKind.wrap_i64]; unfold I64 at i2; omega
  rw [hkb]
  rw [Int.toNat_natCast]
  rw [hkb] at hkp k1 kc HI1 hw1
  rw [hk1] at hkp k0 kc hw1
  rw [hk1]
  clear h hf ht hB hst h5 hk1 hkb i0 i1 i2 i3 hbB hb0
  generalize c.p = cp at *
  generalize c.s = cs at *
  go_enter Try.func10, Try.ntmps10
  go_wp2_with fail
  rw [← hw1, ← hG]
  clear hw1 hG
  with_reducible refine hkp.mono ?_
  rintro e w2 ⟨rfl, b2⟩
  have h2 := h1.bel b2
  have hf2 : Frm a.own w w2 := (Frm.of_below b1).trans (Frm.of_below b2)
  replace kc := kc.frm (ex := fun _ => False) (Frm.of_below b2) id
  clear hkp h1 k0 k1 k2 k3 b1 b2
  have k0 : w2.cell? ⟨G, 0, none⟩ = some (.int .i64 1) := kc.cell 0
  have k1 : w2.cell? ⟨G, 1, none⟩ = some (.int .i64 (kb : Int)) := kc.cell 1
  have k2 : w2.cell? ⟨G, 2, none⟩ = some (.int .i64 cp) := kc.cell 2
  obtain ⟨c0, c1, c3, c4, c5, c6, c7⟩ := cellsJ h2
  go_upto_region 5 with fail
  refine wp_region_still_tail 9 (by kernel_rfl) (by kernel_rfl) ?_
  simp only [List.take_succ_cons, List.take_zero, List.drop_succ_cons, List.drop_zero]
  repeat still_step
  refine wpStill_nil ?_
  change wpList _ _ _ _ _ w2.drew
  obtain ⟨w3, hput, hM3, hF3⟩ := h2.drew.tr.put hn HI1.out HI2.out
  have h3 := h2.drew.setTr (Nat.le_succ n) hM3 hF3
  have hf3 : Frm a.own w w3 := hf2.drew.trans (hF3.mono (fun q _ hq => .inr (.inr (.inl hq))))
  replace kc := kc.drew.frm hF3 (fun hh => hGo (.inr (.inr (.inl hh))))
  clear hM3 hF3 hf2
  go_upto_region 6 with fail
  clear hput h2 k0 k1 k2 c0 c1 c3 c4 c5 c6 c7
  have k0 : w3.cell? ⟨G, 0, none⟩ = some (.int .i64 1) := kc.cell 0
  have k1 : w3.cell? ⟨G, 1, none⟩ = some (.int .i64 (kb : Int)) := kc.cell 1
  have k2 : w3.cell? ⟨G, 2, none⟩ = some (.int .i64 cp) := kc.cell 2
  obtain ⟨c0, c1, c3, c4, c5, c6, c7⟩ := cellsJ h3
  have hct : w3.cell? ⟨a.tt, kb, none⟩ = some (.int .i64 (J.tp.getD kb 0)) := by rw [h3.tp.cell]; exact iv_at _ _ (by have := HT.out; simp; omega)
  have hfz := h3.tp.frozen kb
  have h4 := (h3.setTp kb (cp + 1)).drew
  have hf4 := (hf3.setCell (p := ⟨a.tt, kb, none⟩) (fun _ => .inr (.inr (.inr (.inr (.inl rfl))))) (.int .i64 (cp + 1))).drew
  have H4 := Lib.hid h4
  have HF4 := Lib.hid hf4
  clear h4 hf4 hf3
  refine wp_region_still_tail 10 (by kernel_rfl) (by kernel_rfl) ?_
  simp only [List.take_succ_cons, List.take_zero, List.drop_succ_cons, List.drop_zero]
  repeat still_step
  refine wpStill_nil ?_
  change wpList _ _ _ _ _ w3.drew
  go_wp2
  go_ret
  exact ⟨rfl, H4.out, HF4.out⟩
end Go.Proofs.Ytagfcndpblekkaa
