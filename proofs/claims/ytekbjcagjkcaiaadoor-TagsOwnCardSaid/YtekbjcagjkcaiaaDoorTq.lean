/- The program's Read of tags; both at another length. -/
import Derived.Test.YtekbjcagjkcaiaaDoorTr
namespace Go.Proofs.YtekbjcagjkcaiaaDoor
open Go.RowKit
set_option linter.unusedVariables false
set_option linter.unusedSimpArgs false
def layC (i : Nat) : Int := [0, 1, 1, 1, 2, 6, 8, 6, 14, 4, 18, 4, 22, 2, 24, 2].getD i 0
/-- The package's table of fields, place and size in turns. -/
def LayT (w : World) : Prop := ∀ i, i < 16 → w.cell? ⟨0, i, none⟩ = some (.int .i64 (layC i))
theorem LayT.pos {w : World} (h : LayT w) : 0 < w.heap.size := World.block_lt_of_cell? w _ (h 0 (by decide))
theorem LayT.belowB {B : Nat} {w w' : World} (h : LayT w) (hb : Below B w w') (h0 : 0 < B) : LayT w' := fun i hi => by
  rw [hb.cell h0]; exact h i hi
theorem LayT.below {w w' : World} (h : LayT w) (hb : Below w.heap.size w w') : LayT w' := fun i hi => by
  rw [hb.cell (World.block_lt_of_cell? w _ (h i hi))]; exact h i hi
theorem rRead_no (A : Option Addr) (n cap : Nat) (w : World) (hn : n ≠ 26) (hm : n ≤ 140737488355328) :
    Calls Tryd.prog 10 #[.slice A n cap] w fun e w' => e = .returned (.tuple #[tagZ, .int .i64 60]) ∧ Below w.heap.size w w' := by
  have hnn : ¬ ((n : Nat) : Int) = 26 := by omega
  clear hn
  obtain ⟨w1, hw1⟩ : ∃ w1, w1 = w.alloc (.cells #[.int .i64 0, .int .i64 0, .int .u64 0, .int .u64 0, .int .i64 0, .int .i64 0, .int .i64 0, .int .i64 0] 25) := ⟨_, rfl⟩
  have hB : Below w.heap.size w w1 := by rw [hw1]; exact (Below.refl _ w).alloc (Nat.le_refl _) _
  have hk : Blk w1 w.heap.size 25 [.int .i64 0, .int .i64 0, .int .u64 0, .int .u64 0, .int .i64 0, .int .i64 0, .int .i64 0, .int .i64 0] := by rw [hw1]; exact Blk.new w _ [.int .i64 0, .int .i64 0, .int .u64 0, .int .u64 0, .int .i64 0, .int .i64 0, .int .i64 0, .int .i64 0]
  unfold tagZ
  go_enter Tryd.func10, Tryd.ntmps10
  go_wp2
  rw [← hw1]
  refine bodyPost_ret (results_ct' rfl _ _ w.heap.size 25 #[.int .i64 0, .int .i64 0, .int .u64 0, .int .u64 0, .int .i64 0, .int .i64 0, .int .i64 0, .int .i64 0] (0, 0) _ rfl hk Tryd.underlying25 rfl (by kernel_rfl)) rfl ?_
  exact ⟨rfl, hB⟩
theorem Read_no (A : Option Addr) (n cap : Nat) (w : World) (hn : n ≠ 26) (hm : n ≤ 140737488355328) :
    Calls Tryd.prog 12 #[.slice A n cap] w fun e w' => e = .returned (.tuple #[tagZ, .int .i64 60]) ∧ Below w.heap.size w w' := by
  have hnn : ¬ ((n : Nat) : Int) = 26 := by omega
  clear hn
  obtain ⟨w1, hw1⟩ : ∃ w1, w1 = w.alloc (.cells #[.int .i64 0, .int .i64 0, .int .u64 0, .int .u64 0, .int .i64 0, .int .i64 0, .int .i64 0, .int .i64 0] 25) := ⟨_, rfl⟩
  have hB : Below w.heap.size w w1 := by rw [hw1]; exact (Below.refl _ w).alloc (Nat.le_refl _) _
  have hk : Blk w1 w.heap.size 25 [.int .i64 0, .int .i64 0, .int .u64 0, .int .u64 0, .int .i64 0, .int .i64 0, .int .i64 0, .int .i64 0] := by rw [hw1]; exact Blk.new w _ [.int .i64 0, .int .i64 0, .int .u64 0, .int .u64 0, .int .i64 0, .int .i64 0, .int .i64 0, .int .i64 0]
  unfold tagZ
  go_enter Tryd.func12, Tryd.ntmps12
  go_wp2
  go_step3
  go_wp2
  try rw [Exit.noGoto_ret]
  rw [← hw1]
  refine bodyPost_ret (results_ct' rfl _ _ w.heap.size 25 #[.int .i64 0, .int .i64 0, .int .u64 0, .int .u64 0, .int .i64 0, .int .i64 0, .int .i64 0, .int .i64 0] (0, 0) _ rfl hk Tryd.underlying25 rfl (by kernel_rfl)) rfl ?_
  exact ⟨rfl, hB⟩
def nV (x0 x1 x2 x3 x4 x5 x6 x7 : Nat) : Nat → List Value
  | 0 => [.int .u64 0, .int .u64 0, .int .u64 0, .int .u64 0, .int .u64 0, .int .u64 0, .int .u64 0, .int .u64 0]
  | 1 => [.int .u64 (x0 : Int), .int .u64 0, .int .u64 0, .int .u64 0, .int .u64 0, .int .u64 0, .int .u64 0, .int .u64 0]
  | 2 => [.int .u64 (x0 : Int), .int .u64 (x1 : Int), .int .u64 0, .int .u64 0, .int .u64 0, .int .u64 0, .int .u64 0, .int .u64 0]
  | 3 => [.int .u64 (x0 : Int), .int .u64 (x1 : Int), .int .u64 (x2 : Int), .int .u64 0, .int .u64 0, .int .u64 0, .int .u64 0, .int .u64 0]
  | 4 => [.int .u64 (x0 : Int), .int .u64 (x1 : Int), .int .u64 (x2 : Int), .int .u64 (x3 : Int), .int .u64 0, .int .u64 0, .int .u64 0, .int .u64 0]
  | 5 => [.int .u64 (x0 : Int), .int .u64 (x1 : Int), .int .u64 (x2 : Int), .int .u64 (x3 : Int), .int .u64 (x4 : Int), .int .u64 0, .int .u64 0, .int .u64 0]
  | 6 => [.int .u64 (x0 : Int), .int .u64 (x1 : Int), .int .u64 (x2 : Int), .int .u64 (x3 : Int), .int .u64 (x4 : Int), .int .u64 (x5 : Int), .int .u64 0, .int .u64 0]
  | 7 => [.int .u64 (x0 : Int), .int .u64 (x1 : Int), .int .u64 (x2 : Int), .int .u64 (x3 : Int), .int .u64 (x4 : Int), .int .u64 (x5 : Int), .int .u64 (x6 : Int), .int .u64 0]
  | _ => [.int .u64 (x0 : Int), .int .u64 (x1 : Int), .int .u64 (x2 : Int), .int .u64 (x3 : Int), .int .u64 (x4 : Int), .int .u64 (x5 : Int), .int .u64 (x6 : Int), .int .u64 (x7 : Int)]
theorem getR_fld (l : List UInt8) (hl : l.length = 26) (i k : Nat) (x y : Int) (hx : x = i) (hy : y = k) (h1 : 1 ≤ k) (h8 : k ≤ 8) (h : i + k ≤ 26) : getR l x y = (fld l i k, 0) := by
  subst hx hy
  unfold getR
  rw [if_neg (by omega), if_neg (by omega)]
  rfl
set_option maxRecDepth 100000 in
set_option maxHeartbeats 6400000 in
theorem Read_ok (A : Option Addr) (n cap : Nat) (l : List UInt8) (w : World) (hl : l.length = n) (hn : n = 26) (hr : Rd w A (u8s l)) (hL : LayT w) :
    Calls Tryd.prog 12 #[.slice A n cap] w fun e w' => e = .returned (.tuple #[tagV l, .int .i64 0]) ∧ Below w.heap.size w w' := by
  subst hn
  have g0 := fun wx (hrx : Rd wx A (u8s l)) => get_any A 26 cap 0 1 l wx hl hrx (by decide) (by decide) (by decide)
  have b0 := fld_lt l 0 1
  have g1 := fun wx (hrx : Rd wx A (u8s l)) => get_any A 26 cap 1 1 l wx hl hrx (by decide) (by decide) (by decide)
  have b1 := fld_lt l 1 1
  have g2 := fun wx (hrx : Rd wx A (u8s l)) => get_any A 26 cap 2 6 l wx hl hrx (by decide) (by decide) (by decide)
  have b2 := fld_lt l 2 6
  have g3 := fun wx (hrx : Rd wx A (u8s l)) => get_any A 26 cap 8 6 l wx hl hrx (by decide) (by decide) (by decide)
  have b3 := fld_lt l 8 6
  have g4 := fun wx (hrx : Rd wx A (u8s l)) => get_any A 26 cap 14 4 l wx hl hrx (by decide) (by decide) (by decide)
  have b4 := fld_lt l 14 4
  have g5 := fun wx (hrx : Rd wx A (u8s l)) => get_any A 26 cap 18 4 l wx hl hrx (by decide) (by decide) (by decide)
  have b5 := fld_lt l 18 4
  have g6 := fun wx (hrx : Rd wx A (u8s l)) => get_any A 26 cap 22 2 l wx hl hrx (by decide) (by decide) (by decide)
  have b6 := fld_lt l 22 2
  have g7 := fun wx (hrx : Rd wx A (u8s l)) => get_any A 26 cap 24 2 l wx hl hrx (by decide) (by decide) (by decide)
  have b7 := fld_lt l 24 2
  simp only [getR_fld l hl 0 1 0 1 rfl rfl (by decide) (by decide) (by decide)] at g0
  simp only [getR_fld l hl 1 1 1 1 rfl rfl (by decide) (by decide) (by decide)] at g1
  simp only [getR_fld l hl 2 6 2 6 rfl rfl (by decide) (by decide) (by decide)] at g2
  simp only [getR_fld l hl 8 6 8 6 rfl rfl (by decide) (by decide) (by decide)] at g3
  simp only [getR_fld l hl 14 4 14 4 rfl rfl (by decide) (by decide) (by decide)] at g4
  simp only [getR_fld l hl 18 4 18 4 rfl rfl (by decide) (by decide) (by decide)] at g5
  simp only [getR_fld l hl 22 2 22 2 rfl rfl (by decide) (by decide) (by decide)] at g6
  simp only [getR_fld l hl 24 2 24 2 rfl rfl (by decide) (by decide) (by decide)] at g7
  simp only [show (256:Nat) ^ 1 = 256 from rfl, show (256:Nat) ^ 6 = 281474976710656 from rfl, show (256:Nat) ^ 4 = 4294967296 from rfl, show (256:Nat) ^ 2 = 65536 from rfl] at b0 b1 b2 b3 b4 b5 b6 b7
  unfold tagV
  generalize fld l 0 1 = x0 at *
  generalize fld l 1 1 = x1 at *
  generalize fld l 2 6 = x2 at *
  generalize fld l 8 6 = x3 at *
  generalize fld l 14 4 = x4 at *
  generalize fld l 18 4 = x5 at *
  generalize fld l 22 2 = x6 at *
  generalize fld l 24 2 = x7 at *
  have hw0 := wrap_small x0 (by omega)
  have hw1 := wrap_small x1 (by omega)
  have hw4 := wrap_small x4 (by omega)
  have hw5 := wrap_small x5 (by omega)
  have hw6 := wrap_small x6 (by omega)
  have hw7 := wrap_small x7 (by omega)
  have HW := Lib.hid (And.intro hw0 (And.intro hw1 (And.intro hw4 (And.intro hw5 (And.intro hw6 hw7)))))
  clear hw0 hw1 hw4 hw5 hw6 hw7 b0 b1 b2 b3 b4 b5 b6 b7 hl
  have HG0 := Lib.hid g0
  clear g0
  have HG1 := Lib.hid g1
  clear g1
  have HG2 := Lib.hid g2
  clear g2
  have HG3 := Lib.hid g3
  clear g3
  have HG4 := Lib.hid g4
  clear g4
  have HG5 := Lib.hid g5
  clear g5
  have HG6 := Lib.hid g6
  clear g6
  have HG7 := Lib.hid g7
  clear g7
  have HR := Lib.hid hr
  have HLT := Lib.hid hL
  obtain ⟨w2, hw2⟩ : ∃ x, x = (w.alloc (.cells #[.int .i64 0, .int .i64 0, .int .u64 0, .int .u64 0, .int .i64 0, .int .i64 0, .int .i64 0, .int .i64 0] 25)).alloc (.cells #[.int .u64 0, .int .u64 0, .int .u64 0, .int .u64 0, .int .u64 0, .int .u64 0, .int .u64 0, .int .u64 0] 57) := ⟨_, rfl⟩
  have hB : Below w.heap.size w w2 := by rw [hw2]; exact ((Below.refl _ w).alloc (Nat.le_refl _) _).alloc (by simp) _
  have hz : Blk w2 w.heap.size 25 [.int .i64 0, .int .i64 0, .int .u64 0, .int .u64 0, .int .i64 0, .int .i64 0, .int .i64 0, .int .i64 0] := by rw [hw2]; exact (Blk.new w 25 [.int .i64 0, .int .i64 0, .int .u64 0, .int .u64 0, .int .i64 0, .int .i64 0, .int .i64 0, .int .i64 0]).alloc _
  have hn : Blk w2 (w.heap.size + 1) 57 (nV x0 x1 x2 x3 x4 x5 x6 x7 0) := by
    have h := Blk.new (w.alloc (.cells #[.int .i64 0, .int .i64 0, .int .u64 0, .int .u64 0, .int .i64 0, .int .i64 0, .int .i64 0, .int .i64 0] 25)) 57 [.int .u64 0, .int .u64 0, .int .u64 0, .int .u64 0, .int .u64 0, .int .u64 0, .int .u64 0, .int .u64 0]
    rw [World.size_alloc] at h
    rw [hw2]; exact h
  have hL2 := hL.below hB
  obtain ⟨G, hG⟩ : ∃ G, G = w.heap.size := ⟨_, rfl⟩
  clear hr hL
  go_enter Tryd.func12, Tryd.ntmps12
  go_wp2
  go_step3
  go_wp2
  go_step3
  rw [← hw2, ← hG]
  rw [← hG] at hz hn
  have HG := Lib.hid hG
  have hL0 : 0 < G := by rw [hG]; exact HLT.out.pos
  clear hw2 hG
  have t0 : w2.cell? ⟨0, 0, none⟩ = some (.int .i64 0) := hL2 0 (by decide)
  have t1 : w2.cell? ⟨0, 1, none⟩ = some (.int .i64 1) := hL2 1 (by decide)
  have t2 : w2.cell? ⟨0, 2, none⟩ = some (.int .i64 1) := hL2 2 (by decide)
  have t3 : w2.cell? ⟨0, 3, none⟩ = some (.int .i64 1) := hL2 3 (by decide)
  have t4 : w2.cell? ⟨0, 4, none⟩ = some (.int .i64 2) := hL2 4 (by decide)
  have t5 : w2.cell? ⟨0, 5, none⟩ = some (.int .i64 6) := hL2 5 (by decide)
  have t6 : w2.cell? ⟨0, 6, none⟩ = some (.int .i64 8) := hL2 6 (by decide)
  have t7 : w2.cell? ⟨0, 7, none⟩ = some (.int .i64 6) := hL2 7 (by decide)
  have t8 : w2.cell? ⟨0, 8, none⟩ = some (.int .i64 14) := hL2 8 (by decide)
  have t9 : w2.cell? ⟨0, 9, none⟩ = some (.int .i64 4) := hL2 9 (by decide)
  have t10 : w2.cell? ⟨0, 10, none⟩ = some (.int .i64 18) := hL2 10 (by decide)
  have t11 : w2.cell? ⟨0, 11, none⟩ = some (.int .i64 4) := hL2 11 (by decide)
  have t12 : w2.cell? ⟨0, 12, none⟩ = some (.int .i64 22) := hL2 12 (by decide)
  have t13 : w2.cell? ⟨0, 13, none⟩ = some (.int .i64 2) := hL2 13 (by decide)
  have t14 : w2.cell? ⟨0, 14, none⟩ = some (.int .i64 24) := hL2 14 (by decide)
  have t15 : w2.cell? ⟨0, 15, none⟩ = some (.int .i64 2) := hL2 15 (by decide)
  go_wp2
  clear t0 t1 t2 t3 t4 t5 t6 t7 t8 t9 t10 t11 t12 t13 t14 t15 hL2
  go_loopw [3, 5, 6, 12] (fun e i f kk wr => ∃ k : Nat, k ≤ 8 ∧ kk = .int .i64 k ∧ e = .int .i64 0 ∧ Blk wr (G + 1) 57 (nV x0 x1 x2 x3 x4 x5 x6 x7 k) ∧ Blk wr G 25 [.int .i64 0, .int .i64 0, .int .u64 0, .int .u64 0, .int .i64 0, .int .i64 0, .int .i64 0, .int .i64 0] ∧ Below w.heap.size w wr) (fun _ _ _ kk _ => 8 - (intI kk))
  case atStart => exact ⟨0, by omega, rfl, rfl, hn, hz, hB⟩
  case round =>
    obtain ⟨k, hk, rfl, rfl, kn, kz, bq⟩ := hrel
    clear hn hz hB
    by_cases hlt : k < 8
    · obtain e | e | e | e | e | e | e | e : k = 0 ∨ k = 1 ∨ k = 2 ∨ k = 3 ∨ k = 4 ∨ k = 5 ∨ k = 6 ∨ k = 7 := by omega
      · have hi : ∀ wx : World, (Instr.index 60 (.agg #[.int .i64 0, .int .i64 1, .int .i64 1, .int .i64 1, .int .i64 2, .int .i64 6, .int .i64 8, .int .i64 6, .int .i64 14, .int .i64 4, .int .i64 18, .int .i64 4, .int .i64 22, .int .i64 2, .int .i64 24, .int .i64 2]) (.int .i64 (k : Int))).run Tryd.prog wx = .ok (.agg #[.int .i64 0, .int .i64 1]) wx := fun wx => by rw [e]; kernel_rfl
        have HK := Lib.hid e
        clear e
        go_wp2_with fail
        obtain ⟨wa, hwa⟩ : ∃ x, x = wr.alloc (.cells #[.int .i64 0, .int .i64 1] 59) := ⟨_, rfl⟩
        rw [← hwa]
        have ba : Below w.heap.size w wa := by rw [hwa]; exact bq.alloc bq.size _
        have ka : Blk wa (G + 1) 57 [.int .u64 0, .int .u64 0, .int .u64 0, .int .u64 0, .int .u64 0, .int .u64 0, .int .u64 0, .int .u64 0] := by rw [hwa]; rw [HK.out] at kn; exact kn.alloc _
        have za : Blk wa G 25 [.int .i64 0, .int .i64 0, .int .u64 0, .int .u64 0, .int .i64 0, .int .i64 0, .int .i64 0, .int .i64 0] := by rw [hwa]; exact kz.alloc _
        clear hwa kn kz bq
        with_reducible refine (HG0.out _ (HR.out.below ba)).mono ?_
        rintro e w' ⟨rfl, rfl⟩
        have cc : wa.cell? ⟨G + 1, k, none⟩ = some (.int .u64 0) := by rw [HK.out]; exact ka.cell 0
        have ff := ka.frozen k
        have ks : Blk (wa.setCell ⟨G + 1, k, none⟩ (.int .u64 (x0 : Int))) (G + 1) 57 (nV x0 x1 x2 x3 x4 x5 x6 x7 (k + 1)) := by rw [HK.out]; exact ka.set_ 0 _
        have zs := za.far (p := ⟨G + 1, k, none⟩) (show G ≠ G + 1 by omega) (.int .u64 (x0 : Int))
        have bs := below_frm ba ba.size ((Frm.refl (fun q => q = G + 1) wa).setCell (p := ⟨G + 1, k, none⟩) (fun _ => rfl) (.int .u64 (x0 : Int))) (fun q hq => by rw [hq]; have := HG.out; omega)
        clear ka za ba
        go_wp2
        go_roundw
        case rel => exact ⟨k + 1, by omega, by go_num, rfl, ks, zs, bs⟩
        case measure => simp [intI]; omega
      · have hi : ∀ wx : World, (Instr.index 60 (.agg #[.int .i64 0, .int .i64 1, .int .i64 1, .int .i64 1, .int .i64 2, .int .i64 6, .int .i64 8, .int .i64 6, .int .i64 14, .int .i64 4, .int .i64 18, .int .i64 4, .int .i64 22, .int .i64 2, .int .i64 24, .int .i64 2]) (.int .i64 (k : Int))).run Tryd.prog wx = .ok (.agg #[.int .i64 1, .int .i64 1]) wx := fun wx => by rw [e]; kernel_rfl
        have HK := Lib.hid e
        clear e
        go_wp2_with fail
        obtain ⟨wa, hwa⟩ : ∃ x, x = wr.alloc (.cells #[.int .i64 1, .int .i64 1] 59) := ⟨_, rfl⟩
        rw [← hwa]
        have ba : Below w.heap.size w wa := by rw [hwa]; exact bq.alloc bq.size _
        have ka : Blk wa (G + 1) 57 [.int .u64 (x0 : Int), .int .u64 0, .int .u64 0, .int .u64 0, .int .u64 0, .int .u64 0, .int .u64 0, .int .u64 0] := by rw [hwa]; rw [HK.out] at kn; exact kn.alloc _
        have za : Blk wa G 25 [.int .i64 0, .int .i64 0, .int .u64 0, .int .u64 0, .int .i64 0, .int .i64 0, .int .i64 0, .int .i64 0] := by rw [hwa]; exact kz.alloc _
        clear hwa kn kz bq
        with_reducible refine (HG1.out _ (HR.out.below ba)).mono ?_
        rintro e w' ⟨rfl, rfl⟩
        have cc : wa.cell? ⟨G + 1, k, none⟩ = some (.int .u64 0) := by rw [HK.out]; exact ka.cell 1
        have ff := ka.frozen k
        have ks : Blk (wa.setCell ⟨G + 1, k, none⟩ (.int .u64 (x1 : Int))) (G + 1) 57 (nV x0 x1 x2 x3 x4 x5 x6 x7 (k + 1)) := by rw [HK.out]; exact ka.set_ 1 _
        have zs := za.far (p := ⟨G + 1, k, none⟩) (show G ≠ G + 1 by omega) (.int .u64 (x1 : Int))
        have bs := below_frm ba ba.size ((Frm.refl (fun q => q = G + 1) wa).setCell (p := ⟨G + 1, k, none⟩) (fun _ => rfl) (.int .u64 (x1 : Int))) (fun q hq => by rw [hq]; have := HG.out; omega)
        clear ka za ba
        go_wp2
        go_roundw
        case rel => exact ⟨k + 1, by omega, by go_num, rfl, ks, zs, bs⟩
        case measure => simp [intI]; omega
      · have hi : ∀ wx : World, (Instr.index 60 (.agg #[.int .i64 0, .int .i64 1, .int .i64 1, .int .i64 1, .int .i64 2, .int .i64 6, .int .i64 8, .int .i64 6, .int .i64 14, .int .i64 4, .int .i64 18, .int .i64 4, .int .i64 22, .int .i64 2, .int .i64 24, .int .i64 2]) (.int .i64 (k : Int))).run Tryd.prog wx = .ok (.agg #[.int .i64 2, .int .i64 6]) wx := fun wx => by rw [e]; kernel_rfl
        have HK := Lib.hid e
        clear e
        go_wp2_with fail
        obtain ⟨wa, hwa⟩ : ∃ x, x = wr.alloc (.cells #[.int .i64 2, .int .i64 6] 59) := ⟨_, rfl⟩
        rw [← hwa]
        have ba : Below w.heap.size w wa := by rw [hwa]; exact bq.alloc bq.size _
        have ka : Blk wa (G + 1) 57 [.int .u64 (x0 : Int), .int .u64 (x1 : Int), .int .u64 0, .int .u64 0, .int .u64 0, .int .u64 0, .int .u64 0, .int .u64 0] := by rw [hwa]; rw [HK.out] at kn; exact kn.alloc _
        have za : Blk wa G 25 [.int .i64 0, .int .i64 0, .int .u64 0, .int .u64 0, .int .i64 0, .int .i64 0, .int .i64 0, .int .i64 0] := by rw [hwa]; exact kz.alloc _
        clear hwa kn kz bq
        with_reducible refine (HG2.out _ (HR.out.below ba)).mono ?_
        rintro e w' ⟨rfl, rfl⟩
        have cc : wa.cell? ⟨G + 1, k, none⟩ = some (.int .u64 0) := by rw [HK.out]; exact ka.cell 2
        have ff := ka.frozen k
        have ks : Blk (wa.setCell ⟨G + 1, k, none⟩ (.int .u64 (x2 : Int))) (G + 1) 57 (nV x0 x1 x2 x3 x4 x5 x6 x7 (k + 1)) := by rw [HK.out]; exact ka.set_ 2 _
        have zs := za.far (p := ⟨G + 1, k, none⟩) (show G ≠ G + 1 by omega) (.int .u64 (x2 : Int))
        have bs := below_frm ba ba.size ((Frm.refl (fun q => q = G + 1) wa).setCell (p := ⟨G + 1, k, none⟩) (fun _ => rfl) (.int .u64 (x2 : Int))) (fun q hq => by rw [hq]; have := HG.out; omega)
        clear ka za ba
        go_wp2
        go_roundw
        case rel => exact ⟨k + 1, by omega, by go_num, rfl, ks, zs, bs⟩
        case measure => simp [intI]; omega
      · have hi : ∀ wx : World, (Instr.index 60 (.agg #[.int .i64 0, .int .i64 1, .int .i64 1, .int .i64 1, .int .i64 2, .int .i64 6, .int .i64 8, .int .i64 6, .int .i64 14, .int .i64 4, .int .i64 18, .int .i64 4, .int .i64 22, .int .i64 2, .int .i64 24, .int .i64 2]) (.int .i64 (k : Int))).run Tryd.prog wx = .ok (.agg #[.int .i64 8, .int .i64 6]) wx := fun wx => by rw [e]; kernel_rfl
        have HK := Lib.hid e
        clear e
        go_wp2_with fail
        obtain ⟨wa, hwa⟩ : ∃ x, x = wr.alloc (.cells #[.int .i64 8, .int .i64 6] 59) := ⟨_, rfl⟩
        rw [← hwa]
        have ba : Below w.heap.size w wa := by rw [hwa]; exact bq.alloc bq.size _
        have ka : Blk wa (G + 1) 57 [.int .u64 (x0 : Int), .int .u64 (x1 : Int), .int .u64 (x2 : Int), .int .u64 0, .int .u64 0, .int .u64 0, .int .u64 0, .int .u64 0] := by rw [hwa]; rw [HK.out] at kn; exact kn.alloc _
        have za : Blk wa G 25 [.int .i64 0, .int .i64 0, .int .u64 0, .int .u64 0, .int .i64 0, .int .i64 0, .int .i64 0, .int .i64 0] := by rw [hwa]; exact kz.alloc _
        clear hwa kn kz bq
        with_reducible refine (HG3.out _ (HR.out.below ba)).mono ?_
        rintro e w' ⟨rfl, rfl⟩
        have cc : wa.cell? ⟨G + 1, k, none⟩ = some (.int .u64 0) := by rw [HK.out]; exact ka.cell 3
        have ff := ka.frozen k
        have ks : Blk (wa.setCell ⟨G + 1, k, none⟩ (.int .u64 (x3 : Int))) (G + 1) 57 (nV x0 x1 x2 x3 x4 x5 x6 x7 (k + 1)) := by rw [HK.out]; exact ka.set_ 3 _
        have zs := za.far (p := ⟨G + 1, k, none⟩) (show G ≠ G + 1 by omega) (.int .u64 (x3 : Int))
        have bs := below_frm ba ba.size ((Frm.refl (fun q => q = G + 1) wa).setCell (p := ⟨G + 1, k, none⟩) (fun _ => rfl) (.int .u64 (x3 : Int))) (fun q hq => by rw [hq]; have := HG.out; omega)
        clear ka za ba
        go_wp2
        go_roundw
        case rel => exact ⟨k + 1, by omega, by go_num, rfl, ks, zs, bs⟩
        case measure => simp [intI]; omega
      · have hi : ∀ wx : World, (Instr.index 60 (.agg #[.int .i64 0, .int .i64 1, .int .i64 1, .int .i64 1, .int .i64 2, .int .i64 6, .int .i64 8, .int .i64 6, .int .i64 14, .int .i64 4, .int .i64 18, .int .i64 4, .int .i64 22, .int .i64 2, .int .i64 24, .int .i64 2]) (.int .i64 (k : Int))).run Tryd.prog wx = .ok (.agg #[.int .i64 14, .int .i64 4]) wx := fun wx => by rw [e]; kernel_rfl
        have HK := Lib.hid e
        clear e
        go_wp2_with fail
        obtain ⟨wa, hwa⟩ : ∃ x, x = wr.alloc (.cells #[.int .i64 14, .int .i64 4] 59) := ⟨_, rfl⟩
        rw [← hwa]
        have ba : Below w.heap.size w wa := by rw [hwa]; exact bq.alloc bq.size _
        have ka : Blk wa (G + 1) 57 [.int .u64 (x0 : Int), .int .u64 (x1 : Int), .int .u64 (x2 : Int), .int .u64 (x3 : Int), .int .u64 0, .int .u64 0, .int .u64 0, .int .u64 0] := by rw [hwa]; rw [HK.out] at kn; exact kn.alloc _
        have za : Blk wa G 25 [.int .i64 0, .int .i64 0, .int .u64 0, .int .u64 0, .int .i64 0, .int .i64 0, .int .i64 0, .int .i64 0] := by rw [hwa]; exact kz.alloc _
        clear hwa kn kz bq
        with_reducible refine (HG4.out _ (HR.out.below ba)).mono ?_
        rintro e w' ⟨rfl, rfl⟩
        have cc : wa.cell? ⟨G + 1, k, none⟩ = some (.int .u64 0) := by rw [HK.out]; exact ka.cell 4
        have ff := ka.frozen k
        have ks : Blk (wa.setCell ⟨G + 1, k, none⟩ (.int .u64 (x4 : Int))) (G + 1) 57 (nV x0 x1 x2 x3 x4 x5 x6 x7 (k + 1)) := by rw [HK.out]; exact ka.set_ 4 _
        have zs := za.far (p := ⟨G + 1, k, none⟩) (show G ≠ G + 1 by omega) (.int .u64 (x4 : Int))
        have bs := below_frm ba ba.size ((Frm.refl (fun q => q = G + 1) wa).setCell (p := ⟨G + 1, k, none⟩) (fun _ => rfl) (.int .u64 (x4 : Int))) (fun q hq => by rw [hq]; have := HG.out; omega)
        clear ka za ba
        go_wp2
        go_roundw
        case rel => exact ⟨k + 1, by omega, by go_num, rfl, ks, zs, bs⟩
        case measure => simp [intI]; omega
      · have hi : ∀ wx : World, (Instr.index 60 (.agg #[.int .i64 0, .int .i64 1, .int .i64 1, .int .i64 1, .int .i64 2, .int .i64 6, .int .i64 8, .int .i64 6, .int .i64 14, .int .i64 4, .int .i64 18, .int .i64 4, .int .i64 22, .int .i64 2, .int .i64 24, .int .i64 2]) (.int .i64 (k : Int))).run Tryd.prog wx = .ok (.agg #[.int .i64 18, .int .i64 4]) wx := fun wx => by rw [e]; kernel_rfl
        have HK := Lib.hid e
        clear e
        go_wp2_with fail
        obtain ⟨wa, hwa⟩ : ∃ x, x = wr.alloc (.cells #[.int .i64 18, .int .i64 4] 59) := ⟨_, rfl⟩
        rw [← hwa]
        have ba : Below w.heap.size w wa := by rw [hwa]; exact bq.alloc bq.size _
        have ka : Blk wa (G + 1) 57 [.int .u64 (x0 : Int), .int .u64 (x1 : Int), .int .u64 (x2 : Int), .int .u64 (x3 : Int), .int .u64 (x4 : Int), .int .u64 0, .int .u64 0, .int .u64 0] := by rw [hwa]; rw [HK.out] at kn; exact kn.alloc _
        have za : Blk wa G 25 [.int .i64 0, .int .i64 0, .int .u64 0, .int .u64 0, .int .i64 0, .int .i64 0, .int .i64 0, .int .i64 0] := by rw [hwa]; exact kz.alloc _
        clear hwa kn kz bq
        with_reducible refine (HG5.out _ (HR.out.below ba)).mono ?_
        rintro e w' ⟨rfl, rfl⟩
        have cc : wa.cell? ⟨G + 1, k, none⟩ = some (.int .u64 0) := by rw [HK.out]; exact ka.cell 5
        have ff := ka.frozen k
        have ks : Blk (wa.setCell ⟨G + 1, k, none⟩ (.int .u64 (x5 : Int))) (G + 1) 57 (nV x0 x1 x2 x3 x4 x5 x6 x7 (k + 1)) := by rw [HK.out]; exact ka.set_ 5 _
        have zs := za.far (p := ⟨G + 1, k, none⟩) (show G ≠ G + 1 by omega) (.int .u64 (x5 : Int))
        have bs := below_frm ba ba.size ((Frm.refl (fun q => q = G + 1) wa).setCell (p := ⟨G + 1, k, none⟩) (fun _ => rfl) (.int .u64 (x5 : Int))) (fun q hq => by rw [hq]; have := HG.out; omega)
        clear ka za ba
        go_wp2
        go_roundw
        case rel => exact ⟨k + 1, by omega, by go_num, rfl, ks, zs, bs⟩
        case measure => simp [intI]; omega
      · have hi : ∀ wx : World, (Instr.index 60 (.agg #[.int .i64 0, .int .i64 1, .int .i64 1, .int .i64 1, .int .i64 2, .int .i64 6, .int .i64 8, .int .i64 6, .int .i64 14, .int .i64 4, .int .i64 18, .int .i64 4, .int .i64 22, .int .i64 2, .int .i64 24, .int .i64 2]) (.int .i64 (k : Int))).run Tryd.prog wx = .ok (.agg #[.int .i64 22, .int .i64 2]) wx := fun wx => by rw [e]; kernel_rfl
        have HK := Lib.hid e
        clear e
        go_wp2_with fail
        obtain ⟨wa, hwa⟩ : ∃ x, x = wr.alloc (.cells #[.int .i64 22, .int .i64 2] 59) := ⟨_, rfl⟩
        rw [← hwa]
        have ba : Below w.heap.size w wa := by rw [hwa]; exact bq.alloc bq.size _
        have ka : Blk wa (G + 1) 57 [.int .u64 (x0 : Int), .int .u64 (x1 : Int), .int .u64 (x2 : Int), .int .u64 (x3 : Int), .int .u64 (x4 : Int), .int .u64 (x5 : Int), .int .u64 0, .int .u64 0] := by rw [hwa]; rw [HK.out] at kn; exact kn.alloc _
        have za : Blk wa G 25 [.int .i64 0, .int .i64 0, .int .u64 0, .int .u64 0, .int .i64 0, .int .i64 0, .int .i64 0, .int .i64 0] := by rw [hwa]; exact kz.alloc _
        clear hwa kn kz bq
        with_reducible refine (HG6.out _ (HR.out.below ba)).mono ?_
        rintro e w' ⟨rfl, rfl⟩
        have cc : wa.cell? ⟨G + 1, k, none⟩ = some (.int .u64 0) := by rw [HK.out]; exact ka.cell 6
        have ff := ka.frozen k
        have ks : Blk (wa.setCell ⟨G + 1, k, none⟩ (.int .u64 (x6 : Int))) (G + 1) 57 (nV x0 x1 x2 x3 x4 x5 x6 x7 (k + 1)) := by rw [HK.out]; exact ka.set_ 6 _
        have zs := za.far (p := ⟨G + 1, k, none⟩) (show G ≠ G + 1 by omega) (.int .u64 (x6 : Int))
        have bs := below_frm ba ba.size ((Frm.refl (fun q => q = G + 1) wa).setCell (p := ⟨G + 1, k, none⟩) (fun _ => rfl) (.int .u64 (x6 : Int))) (fun q hq => by rw [hq]; have := HG.out; omega)
        clear ka za ba
        go_wp2
        go_roundw
        case rel => exact ⟨k + 1, by omega, by go_num, rfl, ks, zs, bs⟩
        case measure => simp [intI]; omega
      · have hi : ∀ wx : World, (Instr.index 60 (.agg #[.int .i64 0, .int .i64 1, .int .i64 1, .int .i64 1, .int .i64 2, .int .i64 6, .int .i64 8, .int .i64 6, .int .i64 14, .int .i64 4, .int .i64 18, .int .i64 4, .int .i64 22, .int .i64 2, .int .i64 24, .int .i64 2]) (.int .i64 (k : Int))).run Tryd.prog wx = .ok (.agg #[.int .i64 24, .int .i64 2]) wx := fun wx => by rw [e]; kernel_rfl
        have HK := Lib.hid e
        clear e
        go_wp2_with fail
        obtain ⟨wa, hwa⟩ : ∃ x, x = wr.alloc (.cells #[.int .i64 24, .int .i64 2] 59) := ⟨_, rfl⟩
        rw [← hwa]
        have ba : Below w.heap.size w wa := by rw [hwa]; exact bq.alloc bq.size _
        have ka : Blk wa (G + 1) 57 [.int .u64 (x0 : Int), .int .u64 (x1 : Int), .int .u64 (x2 : Int), .int .u64 (x3 : Int), .int .u64 (x4 : Int), .int .u64 (x5 : Int), .int .u64 (x6 : Int), .int .u64 0] := by rw [hwa]; rw [HK.out] at kn; exact kn.alloc _
        have za : Blk wa G 25 [.int .i64 0, .int .i64 0, .int .u64 0, .int .u64 0, .int .i64 0, .int .i64 0, .int .i64 0, .int .i64 0] := by rw [hwa]; exact kz.alloc _
        clear hwa kn kz bq
        with_reducible refine (HG7.out _ (HR.out.below ba)).mono ?_
        rintro e w' ⟨rfl, rfl⟩
        have cc : wa.cell? ⟨G + 1, k, none⟩ = some (.int .u64 0) := by rw [HK.out]; exact ka.cell 7
        have ff := ka.frozen k
        have ks : Blk (wa.setCell ⟨G + 1, k, none⟩ (.int .u64 (x7 : Int))) (G + 1) 57 (nV x0 x1 x2 x3 x4 x5 x6 x7 (k + 1)) := by rw [HK.out]; exact ka.set_ 7 _
        have zs := za.far (p := ⟨G + 1, k, none⟩) (show G ≠ G + 1 by omega) (.int .u64 (x7 : Int))
        have bs := below_frm ba ba.size ((Frm.refl (fun q => q = G + 1) wa).setCell (p := ⟨G + 1, k, none⟩) (fun _ => rfl) (.int .u64 (x7 : Int))) (fun q hq => by rw [hq]; have := HG.out; omega)
        clear ka za ba
        go_wp2
        go_roundw
        case rel => exact ⟨k + 1, by omega, by go_num, rfl, ks, zs, bs⟩
        case measure => simp [intI]; omega
    · obtain rfl : k = 8 := by omega
      have c0 : wr.cell? ⟨G + 1, 0, none⟩ = some (.int .u64 (x0 : Int)) := kn.cell 0
      have z0 := kz.cell 0
      have f0 := kz.frozen 0
      have c1 : wr.cell? ⟨G + 1, 1, none⟩ = some (.int .u64 (x1 : Int)) := kn.cell 1
      have z1 := kz.cell 1
      have f1 := kz.frozen 1
      have c2 : wr.cell? ⟨G + 1, 2, none⟩ = some (.int .u64 (x2 : Int)) := kn.cell 2
      have z2 := kz.cell 2
      have f2 := kz.frozen 2
      have c3 : wr.cell? ⟨G + 1, 3, none⟩ = some (.int .u64 (x3 : Int)) := kn.cell 3
      have z3 := kz.cell 3
      have f3 := kz.frozen 3
      have c4 : wr.cell? ⟨G + 1, 4, none⟩ = some (.int .u64 (x4 : Int)) := kn.cell 4
      have z4 := kz.cell 4
      have f4 := kz.frozen 4
      have c5 : wr.cell? ⟨G + 1, 5, none⟩ = some (.int .u64 (x5 : Int)) := kn.cell 5
      have z5 := kz.cell 5
      have f5 := kz.frozen 5
      have c6 : wr.cell? ⟨G + 1, 6, none⟩ = some (.int .u64 (x6 : Int)) := kn.cell 6
      have z6 := kz.cell 6
      have f6 := kz.frozen 6
      have c7 : wr.cell? ⟨G + 1, 7, none⟩ = some (.int .u64 (x7 : Int)) := kn.cell 7
      have z7 := kz.cell 7
      have f7 := kz.frozen 7
      obtain ⟨hw0, hw1, hw4, hw5, hw6, hw7⟩ := HW.out
      obtain ⟨kf, bf⟩ := set8 (.int .i64 (x0 : Int)) (.int .i64 (x1 : Int)) (.int .u64 (x2 : Int)) (.int .u64 (x3 : Int)) (.int .i64 (x4 : Int)) (.int .i64 (x5 : Int)) (.int .i64 (x6 : Int)) (.int .i64 (x7 : Int)) kz bq (by have := HG.out; omega)
      go_upto_region 11 with fail
      obtain ⟨w9, hw9⟩ : ∃ x, x = ((((((((wr.setCell ⟨G, 0, none⟩ (.int .i64 (x0 : Int))).setCell ⟨G, 1, none⟩ (.int .i64 (x1 : Int))).setCell ⟨G, 2, none⟩ (.int .u64 (x2 : Int))).setCell ⟨G, 3, none⟩ (.int .u64 (x3 : Int))).setCell ⟨G, 4, none⟩ (.int .i64 (x4 : Int))).setCell ⟨G, 5, none⟩ (.int .i64 (x5 : Int))).setCell ⟨G, 6, none⟩ (.int .i64 (x6 : Int))).setCell ⟨G, 7, none⟩ (.int .i64 (x7 : Int))) := ⟨_, rfl⟩
      rw [← hw9] at kf bf ⊢
      clear hw9 z0 z1 z2 z3 z4 z5 z6 z7 f0 f1 f2 f3 f4 f5 f6 f7 c0 c1 c2 c3 c4 c5 c6 c7 kz bq kn
      have z0 : w9.cell? ⟨G, 0, none⟩ = some (.int .i64 (x0 : Int)) := kf.cell 0
      have f0 := kf.frozen 0
      have z1 : w9.cell? ⟨G, 1, none⟩ = some (.int .i64 (x1 : Int)) := kf.cell 1
      have f1 := kf.frozen 1
      have z2 : w9.cell? ⟨G, 2, none⟩ = some (.int .u64 (x2 : Int)) := kf.cell 2
      have f2 := kf.frozen 2
      have z3 : w9.cell? ⟨G, 3, none⟩ = some (.int .u64 (x3 : Int)) := kf.cell 3
      have f3 := kf.frozen 3
      have z4 : w9.cell? ⟨G, 4, none⟩ = some (.int .i64 (x4 : Int)) := kf.cell 4
      have f4 := kf.frozen 4
      have z5 : w9.cell? ⟨G, 5, none⟩ = some (.int .i64 (x5 : Int)) := kf.cell 5
      have f5 := kf.frozen 5
      have z6 : w9.cell? ⟨G, 6, none⟩ = some (.int .i64 (x6 : Int)) := kf.cell 6
      have f6 := kf.frozen 6
      have z7 : w9.cell? ⟨G, 7, none⟩ = some (.int .i64 (x7 : Int)) := kf.cell 7
      have f7 := kf.frozen 7
      obtain ⟨kg, bg⟩ := set8 (.int .i64 (x0 : Int)) (.int .i64 (x1 : Int)) (.int .u64 (x2 : Int)) (.int .u64 (x3 : Int)) (.int .i64 (x4 : Int)) (.int .i64 (x5 : Int)) (.int .i64 (x6 : Int)) (.int .i64 (x7 : Int)) kf bf (by have := HG.out; omega)
      go_wp2
      try rw [Exit.noGoto_ret]
      refine bodyPost_ret (results_ct' rfl _ _ G 25 #[.int .i64 (x0 : Int), .int .i64 (x1 : Int), .int .u64 (x2 : Int), .int .u64 (x3 : Int), .int .i64 (x4 : Int), .int .i64 (x5 : Int), .int .i64 (x6 : Int), .int .i64 (x7 : Int)] (0, 0) _ rfl kg Tryd.underlying25 rfl (by kernel_rfl)) rfl ?_
      exact ⟨rfl, bg⟩
end Go.Proofs.YtekbjcagjkcaiaaDoor
