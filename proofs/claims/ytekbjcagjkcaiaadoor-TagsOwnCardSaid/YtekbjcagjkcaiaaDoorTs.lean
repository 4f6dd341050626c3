/- The law TagsReads: its walk. -/
import Derived.Test.YtekbjcagjkcaiaaDoorTq
namespace Go.Proofs.YtekbjcagjkcaiaaDoor
open Go.RowKit
set_option linter.unusedVariables false
set_option linter.unusedSimpArgs false
/-- What both tell of the same bytes. -/
theorem reads_both (l : List UInt8) (n : Nat) (hl : l.length = n) (hm : n ≤ 140737488355328) : ∃ x0 x1 x2 x3 x4 x5 x6 x7 f : Int,
    (∀ (A : Option Addr) (cap : Nat) (w : World), n ≤ cap → Rd w A (u8s l) → Calls Tryd.prog 10 #[.slice A n cap] w fun e w' => e = .returned (.tuple #[.agg #[.int .i64 x0, .int .i64 x1, .int .u64 x2, .int .u64 x3, .int .i64 x4, .int .i64 x5, .int .i64 x6, .int .i64 x7], .int .i64 f]) ∧ Below w.heap.size w w') ∧
    (∀ (A : Option Addr) (cap : Nat) (w : World), Rd w A (u8s l) → LayT w → Calls Tryd.prog 12 #[.slice A n cap] w fun e w' => e = .returned (.tuple #[.agg #[.int .i64 x0, .int .i64 x1, .int .u64 x2, .int .u64 x3, .int .i64 x4, .int .i64 x5, .int .i64 x6, .int .i64 x7], .int .i64 f]) ∧ Below w.heap.size w w') := by
  by_cases h : n = 26
  · exact ⟨_, _, _, _, _, _, _, _, _, fun A cap w hc hr => rRead_ok A n cap l w hl h hc hr, fun A cap w hr hL => Read_ok A n cap l w hl h hr hL⟩
  · exact ⟨_, _, _, _, _, _, _, _, _, fun A cap w hc hr => rRead_no A n cap w h hm, fun A cap w hr hL => Read_no A n cap w h hm⟩
set_option maxHeartbeats 3200000 in
theorem reads_walk (w : World) (A : Option Addr) (n cap : Nat) (l : List UInt8) (hl : l.length = n) (hr : Rd w A (u8s l)) (hm : n ≤ 140737488351232) (hcap : n ≤ cap) (hL : LayT w) :
    Calls Tryd.prog 3 #[.slice A n cap] w fun e w' => e = .returned (.bool true) ∧ Below w.heap.size w w' := by
  obtain ⟨x0, x1, x2, x3, x4, x5, x6, x7, f, hA, hB⟩ := reads_both l n hl (by omega)
  have HL := Lib.hid hl
  have HA := Lib.hid hA
  have HB := Lib.hid hB
  clear hl hA hB
  go_enter Tryd.func3, Tryd.ntmps3
  go_wp2_with fail
  with_reducible refine (HA.out A cap _ hcap hr).mono ?_
  rintro e w1 ⟨rfl, b1⟩
  go_upto_region 2 with fail
  obtain ⟨w2, hw2⟩ : ∃ x, x = w1.alloc (.cells #[.int .i64 x0, .int .i64 x1, .int .u64 x2, .int .u64 x3, .int .i64 x4, .int .i64 x5, .int .i64 x6, .int .i64 x7] 25) := ⟨_, rfl⟩
  have k2 : Blk w2 w1.heap.size 25 [.int .i64 x0, .int .i64 x1, .int .u64 x2, .int .u64 x3, .int .i64 x4, .int .i64 x5, .int .i64 x6, .int .i64 x7] := by rw [hw2]; exact Blk.new w1 _ _
  have b2 : Below w.heap.size w w2 := by rw [hw2]; exact b1.alloc b1.size _
  rw [← hw2]
  obtain ⟨G, hG⟩ : ∃ G, G = w1.heap.size := ⟨_, rfl⟩
  rw [← hG] at k2 ⊢
  clear hw2 hG b1
  go_wp2_with fail
  with_reducible refine (roomy_any A n cap l _ HL.out (hr.below b2) hm).mono ?_
  rintro e w3 ⟨v3, sp3, rfl, o3, _, b3⟩
  replace k2 := k2.frm (ex := fun _ => False) (Frm.of_below b3) id
  replace b2 := b2.trans (b3.mono b2.size)
  obtain ⟨A3, q3, rfl, h3, r3⟩ := o3.rd
  have hc3 : q3 ≤ maxLen := (Owx.of_own o3).cap
  have hsl := fun wx => sl_to A3 (n + 70) q3 n (by omega) wx hc3
  have r3l : Rd w3 A3 (u8s l) := by rw [u8s_append] at r3; exact r3.left
  clear b3 o3
  go_wp2_with fail
  with_reducible refine (HB.out A3 q3 _ r3l (hL.below b2)).mono ?_
  rintro e w4 ⟨rfl, b4⟩
  go_upto_region 4 with fail
  obtain ⟨w5, hw5⟩ : ∃ x, x = w4.alloc (.cells #[.int .i64 x0, .int .i64 x1, .int .u64 x2, .int .u64 x3, .int .i64 x4, .int .i64 x5, .int .i64 x6, .int .i64 x7] 25) := ⟨_, rfl⟩
  have k5 : Blk w5 w4.heap.size 25 [.int .i64 x0, .int .i64 x1, .int .u64 x2, .int .u64 x3, .int .i64 x4, .int .i64 x5, .int .i64 x6, .int .i64 x7] := by rw [hw5]; exact Blk.new w4 _ _
  have b5 : Below w3.heap.size w3 w5 := by rw [hw5]; exact b4.alloc b4.size _
  rw [← hw5]
  obtain ⟨Q, hQ⟩ : ∃ Q, Q = w4.heap.size := ⟨_, rfl⟩
  rw [← hQ] at k5 ⊢
  replace k2 := k2.frm (ex := fun _ => False) (Frm.of_below b5) id
  replace r3 := r3.below b5
  replace b2 := b2.trans (b5.mono b2.size)
  clear hw5 hQ b4 b5 hsl r3l hL hcap
  go_wp2_with fail
  with_reducible refine (no_any _ _).mono ?_
  rintro e w' ⟨rfl, rfl⟩
  have c0 := k2.cell 0
  have c1 := k2.cell 1
  have c2 := k2.cell 2
  have c3 := k2.cell 3
  have c4 := k2.cell 4
  have c5 := k2.cell 5
  have c6 := k2.cell 6
  have c7 := k2.cell 7
  have d0 := k5.cell 0
  have d1 := k5.cell 1
  have d2 := k5.cell 2
  have d3 := k5.cell 3
  have d4 := k5.cell 4
  have d5 := k5.cell 5
  have d6 := k5.cell 6
  have d7 := k5.cell 7
  simp only [List.getElem?_cons_zero, List.getElem?_cons_succ] at c0 c1 c2 c3 c4 c5 c6 c7 d0 d1 d2 d3 d4 d5 d6 d7
  go_wp2_with fail
  with_reducible refine (same_tags _ _ _ _ _ _ _ _ _).mono ?_
  rintro e w6 ⟨rfl, b6⟩
  have r6 := r3.below b6
  have bb := b2.trans (b6.mono b2.size)
  clear c0 c1 c2 c3 c4 c5 c6 c7 d0 d1 d2 d3 d4 d5 d6 d7 k2 k5 b6 r3 b2
  go_wp2_with fail
  with_reducible refine (kept_any A3 A n q3 cap l _ HL.out r6 (hr.below bb) hm).mono ?_
  rintro e w7 ⟨rfl, m, rfl⟩
  go_wp2
  go_ret
  exact ⟨rfl, bel_drewN bb m⟩
end Go.Proofs.YtekbjcagjkcaiaaDoor
