/- Tags as eight numbers. -/
import Derived.Test.YtekbjcagjkcaiaaDoorTq
namespace Go.Proofs.YtekbjcagjkcaiaaDoor
open Go.RowKit
set_option linter.unusedVariables false
set_option linter.unusedSimpArgs false
theorem wrap_u (x : Int) (h : 0 ≤ x) (h2 : x ≤ 9223372036854775807) : IntKind.u64.wrap x = x := by rw [IntKind.wrap_u64]; omega
def nX (x0 x1 x4 x5 x6 x7 : Int) : Nat → List Value
  | 0 => [.int .u64 0, .int .u64 0, .int .u64 0, .int .u64 0, .int .u64 0, .int .u64 0, .int .u64 0, .int .u64 0]
  | 1 => [.int .u64 x0, .int .u64 0, .int .u64 0, .int .u64 0, .int .u64 0, .int .u64 0, .int .u64 0, .int .u64 0]
  | 2 => [.int .u64 x0, .int .u64 x1, .int .u64 0, .int .u64 0, .int .u64 0, .int .u64 0, .int .u64 0, .int .u64 0]
  | 3 => [.int .u64 x0, .int .u64 x1, .int .u64 0, .int .u64 0, .int .u64 0, .int .u64 0, .int .u64 0, .int .u64 0]
  | 4 => [.int .u64 x0, .int .u64 x1, .int .u64 0, .int .u64 0, .int .u64 0, .int .u64 0, .int .u64 0, .int .u64 0]
  | 5 => [.int .u64 x0, .int .u64 x1, .int .u64 0, .int .u64 0, .int .u64 x4, .int .u64 0, .int .u64 0, .int .u64 0]
  | 6 => [.int .u64 x0, .int .u64 x1, .int .u64 0, .int .u64 0, .int .u64 x4, .int .u64 x5, .int .u64 0, .int .u64 0]
  | 7 => [.int .u64 x0, .int .u64 x1, .int .u64 0, .int .u64 0, .int .u64 x4, .int .u64 x5, .int .u64 x6, .int .u64 0]
  | _ => [.int .u64 x0, .int .u64 x1, .int .u64 0, .int .u64 0, .int .u64 x4, .int .u64 x5, .int .u64 x6, .int .u64 x7]
/-- The numbers that are whole numbers in Go are not below 0. -/
def Pos6 (x0 x1 x4 x5 x6 x7 : Int) : Prop := 0 ≤ x0 ∧ 0 ≤ x1 ∧ 0 ≤ x4 ∧ 0 ≤ x5 ∧ 0 ≤ x6 ∧ 0 ≤ x7
def NumP (x0 x1 x2 x3 x4 x5 x6 x7 : Int) (w : World) (e : Ending) (w' : World) : Prop :=
  ∃ (y0 y1 y2 y3 y4 y5 y6 y7 : Int) (b : Bool), e = .returned (.tuple #[.agg #[.int .u64 y0, .int .u64 y1, .int .u64 y2, .int .u64 y3, .int .u64 y4, .int .u64 y5, .int .u64 y6, .int .u64 y7], .bool b]) ∧ Below w.heap.size w w' ∧
    ((b = true ∧ Pos6 x0 x1 x4 x5 x6 x7 ∧ y0 = x0 ∧ y1 = x1 ∧ y2 = x2 ∧ y3 = x3 ∧ y4 = x4 ∧ y5 = x5 ∧ y6 = x6 ∧ y7 = x7) ∨ (b = false ∧ ¬ Pos6 x0 x1 x4 x5 x6 x7))
def PosK (x0 x1 x4 x5 x6 x7 : Int) (k : Nat) : Prop := (0 < k → 0 ≤ x0) ∧ (1 < k → 0 ≤ x1) ∧ (4 < k → 0 ≤ x4) ∧ (5 < k → 0 ≤ x5) ∧ (6 < k → 0 ≤ x6) ∧ (7 < k → 0 ≤ x7)
set_option maxRecDepth 100000 in
set_option maxHeartbeats 6400000 in
theorem numbers_any (x0 x1 x2 x3 x4 x5 x6 x7 : Int) (h0 : -9223372036854775808 ≤ x0 ∧ x0 ≤ 9223372036854775807) (h1 : -9223372036854775808 ≤ x1 ∧ x1 ≤ 9223372036854775807) (h4 : -9223372036854775808 ≤ x4 ∧ x4 ≤ 9223372036854775807) (h5 : -9223372036854775808 ≤ x5 ∧ x5 ≤ 9223372036854775807) (h6 : -9223372036854775808 ≤ x6 ∧ x6 ≤ 9223372036854775807) (h7 : -9223372036854775808 ≤ x7 ∧ x7 ≤ 9223372036854775807) (w : World) :
    Calls Tryd.prog 34 #[.agg #[.int .i64 x0, .int .i64 x1, .int .u64 x2, .int .u64 x3, .int .i64 x4, .int .i64 x5, .int .i64 x6, .int .i64 x7]] w (NumP x0 x1 x2 x3 x4 x5 x6 x7 w) := by
  obtain ⟨w3, hw3⟩ : ∃ x, x = ((w.alloc (.cells #[.int .i64 x0, .int .i64 x1, .int .u64 x2, .int .u64 x3, .int .i64 x4, .int .i64 x5, .int .i64 x6, .int .i64 x7] 25)).alloc (.cells #[.int .u64 0, .int .u64 0, .int .u64 0, .int .u64 0, .int .u64 0, .int .u64 0, .int .u64 0, .int .u64 0] 57)).alloc (.cells #[.int .i64 x0, .int .i64 x1, .int .i64 0, .int .i64 0, .int .i64 x4, .int .i64 x5, .int .i64 x6, .int .i64 x7] 90) := ⟨_, rfl⟩
  have hB : Below w.heap.size w w3 := by rw [hw3]; exact (((Below.refl _ w).alloc (Nat.le_refl _) _).alloc (by simp) _).alloc (by simp; omega) _
  have ht : Blk w3 w.heap.size 25 [.int .i64 x0, .int .i64 x1, .int .u64 x2, .int .u64 x3, .int .i64 x4, .int .i64 x5, .int .i64 x6, .int .i64 x7] := by rw [hw3]; exact ((Blk.new w 25 [.int .i64 x0, .int .i64 x1, .int .u64 x2, .int .u64 x3, .int .i64 x4, .int .i64 x5, .int .i64 x6, .int .i64 x7]).alloc _).alloc _
  have hn : Blk w3 (w.heap.size + 1) 57 (nX x0 x1 x4 x5 x6 x7 0) := by
    have h := (Blk.new (w.alloc (.cells #[.int .i64 x0, .int .i64 x1, .int .u64 x2, .int .u64 x3, .int .i64 x4, .int .i64 x5, .int .i64 x6, .int .i64 x7] 25)) 57 [.int .u64 0, .int .u64 0, .int .u64 0, .int .u64 0, .int .u64 0, .int .u64 0, .int .u64 0, .int .u64 0]).alloc (.cells #[.int .i64 x0, .int .i64 x1, .int .i64 0, .int .i64 0, .int .i64 x4, .int .i64 x5, .int .i64 x6, .int .i64 x7] 90)
    rw [World.size_alloc] at h
    rw [hw3]; exact h
  obtain ⟨G, hG⟩ : ∃ G, G = w.heap.size := ⟨_, rfl⟩
  go_enter Tryd.func34, Tryd.ntmps34
  go_upto_region 2 with fail
  rw [← hw3, ← hG]
  rw [← hG] at ht hn
  have HG := Lib.hid hG
  have HW3 := Lib.hid hw3
  have hl : ∃ wq, w3 = (wq : World).alloc (.cells #[.int .i64 x0, .int .i64 x1, .int .i64 0, .int .i64 0, .int .i64 x4, .int .i64 x5, .int .i64 x6, .int .i64 x7] 90) ∧ wq.heap.size = G + 2 := ⟨_, hw3, by rw [HG.out]; simp⟩
  obtain ⟨wq, hwq, hsq⟩ := hl
  have hi3 : Blk w3 (G + 2) 90 [.int .i64 x0, .int .i64 x1, .int .i64 0, .int .i64 0, .int .i64 x4, .int .i64 x5, .int .i64 x6, .int .i64 x7] := by rw [hwq, ← hsq]; exact Blk.new wq _ _
  clear hw3 hG hwq hsq
  have a0 : w3.cell? ⟨G + 2, 0, none⟩ = some (.int .i64 x0) := hi3.cell 0
  have a1 : w3.cell? ⟨G + 2, 1, none⟩ = some (.int .i64 x1) := hi3.cell 1
  have a2 : w3.cell? ⟨G + 2, 2, none⟩ = some (.int .i64 0) := hi3.cell 2
  have a3 : w3.cell? ⟨G + 2, 3, none⟩ = some (.int .i64 0) := hi3.cell 3
  have a4 : w3.cell? ⟨G + 2, 4, none⟩ = some (.int .i64 x4) := hi3.cell 4
  have a5 : w3.cell? ⟨G + 2, 5, none⟩ = some (.int .i64 x5) := hi3.cell 5
  have a6 : w3.cell? ⟨G + 2, 6, none⟩ = some (.int .i64 x6) := hi3.cell 6
  have a7 : w3.cell? ⟨G + 2, 7, none⟩ = some (.int .i64 x7) := hi3.cell 7
  go_wp2
  clear a0 a1 a2 a3 a4 a5 a6 a7 hi3
  go_loopw [5, 6, 21] (fun i v kk wr => ∃ k : Nat, k ≤ 8 ∧ kk = .int .i64 k ∧ PosK x0 x1 x4 x5 x6 x7 k ∧ Blk wr (G + 1) 57 (nX x0 x1 x4 x5 x6 x7 k) ∧ Blk wr G 25 [.int .i64 x0, .int .i64 x1, .int .u64 x2, .int .u64 x3, .int .i64 x4, .int .i64 x5, .int .i64 x6, .int .i64 x7] ∧ Below w.heap.size w wr) (fun _ _ kk _ => 8 - (intI kk))
  case atStart => exact ⟨0, by omega, rfl, by unfold PosK; omega, hn, ht, hB⟩
  case round =>
    obtain ⟨k, hk, rfl, hpos, kn, kt, bq⟩ := hrel
    clear hn ht hB
    have HP := Lib.hid hpos
    clear hpos
    by_cases hlt : k < 8
    · obtain e | e | e | e | e | e | e | e : k = 0 ∨ k = 1 ∨ k = 2 ∨ k = 3 ∨ k = 4 ∨ k = 5 ∨ k = 6 ∨ k = 7 := by omega
      · have hi : ∀ wx : World, (Instr.index 90 (.agg #[.int .i64 x0, .int .i64 x1, .int .i64 0, .int .i64 0, .int .i64 x4, .int .i64 x5, .int .i64 x6, .int .i64 x7]) (.int .i64 (k : Int))).run Tryd.prog wx = .ok (.int .i64 x0) wx := fun wx => by rw [e]; kernel_rfl
        have HK := Lib.hid e
        clear e
        by_cases hs : x0 < 0
        · rw [HK.out] at kn
          have c0 := kn.cell 0
          have f0 := kn.frozen 0
          have c1 := kn.cell 1
          have f1 := kn.frozen 1
          have c2 := kn.cell 2
          have f2 := kn.frozen 2
          have c3 := kn.cell 3
          have f3 := kn.frozen 3
          have c4 := kn.cell 4
          have f4 := kn.frozen 4
          have c5 := kn.cell 5
          have f5 := kn.frozen 5
          have c6 := kn.cell 6
          have f6 := kn.frozen 6
          have c7 := kn.cell 7
          have f7 := kn.frozen 7
          simp only [nX, List.getElem?_cons_zero, List.getElem?_cons_succ] at c0 c1 c2 c3 c4 c5 c6 c7
          go_wp2
          obtain ⟨kf, bf⟩ := set8 (.int .u64 0) (.int .u64 0) (.int .u64 0) (.int .u64 0) (.int .u64 0) (.int .u64 0) (.int .u64 0) (.int .u64 0) kn bq (by have := HG.out; omega)
          refine bodyPost_ret (results_ct' rfl _ _ (G + 1) 57 #[.int .u64 0, .int .u64 0, .int .u64 0, .int .u64 0, .int .u64 0, .int .u64 0, .int .u64 0, .int .u64 0] (0, 0) _ rfl kf Tryd.underlying57 rfl (by kernel_rfl)) rfl ?_
          exact ⟨_, _, _, _, _, _, _, _, false, rfl, bf, .inr ⟨rfl, by unfold Pos6; omega⟩⟩
        · have hs0 : 0 ≤ x0 := by omega
          have hwx := wrap_u x0 hs0 h0.2
          have cc : wr.cell? ⟨G + 1, k, none⟩ = some (.int .u64 0) := by rw [HK.out]; rw [HK.out] at kn; exact kn.cell 0
          have ff := kn.frozen k
          have ks : Blk (wr.setCell ⟨G + 1, k, none⟩ (.int .u64 x0)) (G + 1) 57 (nX x0 x1 x4 x5 x6 x7 (k + 1)) := by rw [HK.out]; rw [HK.out] at kn; exact kn.set_ 0 _
          have ts := kt.far (p := ⟨G + 1, k, none⟩) (show G ≠ G + 1 by omega) (.int .u64 x0)
          have bs := below_frm bq bq.size ((Frm.refl (fun q => q = G + 1) wr).setCell (p := ⟨G + 1, k, none⟩) (fun _ => rfl) (.int .u64 x0)) (fun q hq => by rw [hq]; have := HG.out; omega)
          have hps : PosK x0 x1 x4 x5 x6 x7 (k + 1) := by have h1 := HP.out; have h2 := HK.out; unfold PosK at h1 ⊢; omega
          have HPS := Lib.hid hps
          clear kn kt bq hps
          go_wp2
          go_roundw
          case rel => exact ⟨k + 1, by omega, by go_num, HPS.out, ks, ts, bs⟩
          case measure => simp [intI]; omega
      · have hi : ∀ wx : World, (Instr.index 90 (.agg #[.int .i64 x0, .int .i64 x1, .int .i64 0, .int .i64 0, .int .i64 x4, .int .i64 x5, .int .i64 x6, .int .i64 x7]) (.int .i64 (k : Int))).run Tryd.prog wx = .ok (.int .i64 x1) wx := fun wx => by rw [e]; kernel_rfl
        have HK := Lib.hid e
        clear e
        by_cases hs : x1 < 0
        · rw [HK.out] at kn
          have c0 := kn.cell 0
          have f0 := kn.frozen 0
          have c1 := kn.cell 1
          have f1 := kn.frozen 1
          have c2 := kn.cell 2
          have f2 := kn.frozen 2
          have c3 := kn.cell 3
          have f3 := kn.frozen 3
          have c4 := kn.cell 4
          have f4 := kn.frozen 4
          have c5 := kn.cell 5
          have f5 := kn.frozen 5
          have c6 := kn.cell 6
          have f6 := kn.frozen 6
          have c7 := kn.cell 7
          have f7 := kn.frozen 7
          simp only [nX, List.getElem?_cons_zero, List.getElem?_cons_succ] at c0 c1 c2 c3 c4 c5 c6 c7
          go_wp2
          obtain ⟨kf, bf⟩ := set8 (.int .u64 x0) (.int .u64 0) (.int .u64 0) (.int .u64 0) (.int .u64 0) (.int .u64 0) (.int .u64 0) (.int .u64 0) kn bq (by have := HG.out; omega)
          refine bodyPost_ret (results_ct' rfl _ _ (G + 1) 57 #[.int .u64 x0, .int .u64 0, .int .u64 0, .int .u64 0, .int .u64 0, .int .u64 0, .int .u64 0, .int .u64 0] (0, 0) _ rfl kf Tryd.underlying57 rfl (by kernel_rfl)) rfl ?_
          exact ⟨_, _, _, _, _, _, _, _, false, rfl, bf, .inr ⟨rfl, by unfold Pos6; omega⟩⟩
        · have hs0 : 0 ≤ x1 := by omega
          have hwx := wrap_u x1 hs0 h1.2
          have cc : wr.cell? ⟨G + 1, k, none⟩ = some (.int .u64 0) := by rw [HK.out]; rw [HK.out] at kn; exact kn.cell 1
          have ff := kn.frozen k
          have ks : Blk (wr.setCell ⟨G + 1, k, none⟩ (.int .u64 x1)) (G + 1) 57 (nX x0 x1 x4 x5 x6 x7 (k + 1)) := by rw [HK.out]; rw [HK.out] at kn; exact kn.set_ 1 _
          have ts := kt.far (p := ⟨G + 1, k, none⟩) (show G ≠ G + 1 by omega) (.int .u64 x1)
          have bs := below_frm bq bq.size ((Frm.refl (fun q => q = G + 1) wr).setCell (p := ⟨G + 1, k, none⟩) (fun _ => rfl) (.int .u64 x1)) (fun q hq => by rw [hq]; have := HG.out; omega)
          have hps : PosK x0 x1 x4 x5 x6 x7 (k + 1) := by have h1 := HP.out; have h2 := HK.out; unfold PosK at h1 ⊢; omega
          have HPS := Lib.hid hps
          clear kn kt bq hps
          go_wp2
          go_roundw
          case rel => exact ⟨k + 1, by omega, by go_num, HPS.out, ks, ts, bs⟩
          case measure => simp [intI]; omega
      · have hi : ∀ wx : World, (Instr.index 90 (.agg #[.int .i64 x0, .int .i64 x1, .int .i64 0, .int .i64 0, .int .i64 x4, .int .i64 x5, .int .i64 x6, .int .i64 x7]) (.int .i64 (k : Int))).run Tryd.prog wx = .ok (.int .i64 0) wx := fun wx => by rw [e]; kernel_rfl
        have HK := Lib.hid e
        clear e
        have cc : wr.cell? ⟨G + 1, k, none⟩ = some (.int .u64 0) := by rw [HK.out]; rw [HK.out] at kn; exact kn.cell 2
        have ff := kn.frozen k
        have ks : Blk (wr.setCell ⟨G + 1, k, none⟩ (.int .u64 0)) (G + 1) 57 (nX x0 x1 x4 x5 x6 x7 (k + 1)) := by rw [HK.out]; rw [HK.out] at kn; exact kn.set_ 2 _
        have ts := kt.far (p := ⟨G + 1, k, none⟩) (show G ≠ G + 1 by omega) (.int .u64 0)
        have bs := below_frm bq bq.size ((Frm.refl (fun q => q = G + 1) wr).setCell (p := ⟨G + 1, k, none⟩) (fun _ => rfl) (.int .u64 0)) (fun q hq => by rw [hq]; have := HG.out; omega)
        have hps : PosK x0 x1 x4 x5 x6 x7 (k + 1) := by have h1 := HP.out; have h2 := HK.out; unfold PosK at h1 ⊢; omega
        have HPS := Lib.hid hps
        clear kn kt bq hps
        go_wp2
        go_roundw
        case rel => exact ⟨k + 1, by omega, by go_num, HPS.out, ks, ts, bs⟩
        case measure => simp [intI]; omega
      · have hi : ∀ wx : World, (Instr.index 90 (.agg #[.int .i64 x0, .int .i64 x1, .int .i64 0, .int .i64 0, .int .i64 x4, .int .i64 x5, .int .i64 x6, .int .i64 x7]) (.int .i64 (k : Int))).run Tryd.prog wx = .ok (.int .i64 0) wx := fun wx => by rw [e]; kernel_rfl
        have HK := Lib.hid e
        clear e
        have cc : wr.cell? ⟨G + 1, k, none⟩ = some (.int .u64 0) := by rw [HK.out]; rw [HK.out] at kn; exact kn.cell 3
        have ff := kn.frozen k
        have ks : Blk (wr.setCell ⟨G + 1, k, none⟩ (.int .u64 0)) (G + 1) 57 (nX x0 x1 x4 x5 x6 x7 (k + 1)) := by rw [HK.out]; rw [HK.out] at kn; exact kn.set_ 3 _
        have ts := kt.far (p := ⟨G + 1, k, none⟩) (show G ≠ G + 1 by omega) (.int .u64 0)
        have bs := below_frm bq bq.size ((Frm.refl (fun q => q = G + 1) wr).setCell (p := ⟨G + 1, k, none⟩) (fun _ => rfl) (.int .u64 0)) (fun q hq => by rw [hq]; have := HG.out; omega)
        have hps : PosK x0 x1 x4 x5 x6 x7 (k + 1) := by have h1 := HP.out; have h2 := HK.out; unfold PosK at h1 ⊢; omega
        have HPS := Lib.hid hps
        clear kn kt bq hps
        go_wp2
        go_roundw
        case rel => exact ⟨k + 1, by omega, by go_num, HPS.out, ks, ts, bs⟩
        case measure => simp [intI]; omega
      · have hi : ∀ wx : World, (Instr.index 90 (.agg #[.int .i64 x0, .int .i64 x1, .int .i64 0, .int .i64 0, .int .i64 x4, .int .i64 x5, .int .i64 x6, .int .i64 x7]) (.int .i64 (k : Int))).run Tryd.prog wx = .ok (.int .i64 x4) wx := fun wx => by rw [e]; kernel_rfl
        have HK := Lib.hid e
        clear e
        by_cases hs : x4 < 0
        · rw [HK.out] at kn
          have c0 := kn.cell 0
          have f0 := kn.frozen 0
          have c1 := kn.cell 1
          have f1 := kn.frozen 1
          have c2 := kn.cell 2
          have f2 := kn.frozen 2
          have c3 := kn.cell 3
          have f3 := kn.frozen 3
          have c4 := kn.cell 4
          have f4 := kn.frozen 4
          have c5 := kn.cell 5
          have f5 := kn.frozen 5
          have c6 := kn.cell 6
          have f6 := kn.frozen 6
          have c7 := kn.cell 7
          have f7 := kn.frozen 7
          simp only [nX, List.getElem?_cons_zero, List.getElem?_cons_succ] at c0 c1 c2 c3 c4 c5 c6 c7
          go_wp2
          obtain ⟨kf, bf⟩ := set8 (.int .u64 x0) (.int .u64 x1) (.int .u64 0) (.int .u64 0) (.int .u64 0) (.int .u64 0) (.int .u64 0) (.int .u64 0) kn bq (by have := HG.out; omega)
          refine bodyPost_ret (results_ct' rfl _ _ (G + 1) 57 #[.int .u64 x0, .int .u64 x1, .int .u64 0, .int .u64 0, .int .u64 0, .int .u64 0, .int .u64 0, .int .u64 0] (0, 0) _ rfl kf Tryd.underlying57 rfl (by kernel_rfl)) rfl ?_
          exact ⟨_, _, _, _, _, _, _, _, false, rfl, bf, .inr ⟨rfl, by unfold Pos6; omega⟩⟩
        · have hs0 : 0 ≤ x4 := by omega
          have hwx := wrap_u x4 hs0 h4.2
          have cc : wr.cell? ⟨G + 1, k, none⟩ = some (.int .u64 0) := by rw [HK.out]; rw [HK.out] at kn; exact kn.cell 4
          have ff := kn.frozen k
          have ks : Blk (wr.setCell ⟨G + 1, k, none⟩ (.int .u64 x4)) (G + 1) 57 (nX x0 x1 x4 x5 x6 x7 (k + 1)) := by rw [HK.out]; rw [HK.out] at kn; exact kn.set_ 4 _
          have ts := kt.far (p := ⟨G + 1, k, none⟩) (show G ≠ G + 1 by omega) (.int .u64 x4)
          have bs := below_frm bq bq.size ((Frm.refl (fun q => q = G + 1) wr).setCell (p := ⟨G + 1, k, none⟩) (fun _ => rfl) (.int .u64 x4)) (fun q hq => by rw [hq]; have := HG.out; omega)
          have hps : PosK x0 x1 x4 x5 x6 x7 (k + 1) := by have h1 := HP.out; have h2 := HK.out; unfold PosK at h1 ⊢; omega
          have HPS := Lib.hid hps
          clear kn kt bq hps
          go_wp2
          go_roundw
          case rel => exact ⟨k + 1, by omega, by go_num, HPS.out, ks, ts, bs⟩
          case measure => simp [intI]; omega
      · have hi : ∀ wx : World, (Instr.index 90 (.agg #[.int .i64 x0, .int .i64 x1, .int .i64 0, .int .i64 0, .int .i64 x4, .int .i64 x5, .int .i64 x6, .int .i64 x7]) (.int .i64 (k : Int))).run Tryd.prog wx = .ok (.int .i64 x5) wx := fun wx => by rw [e]; kernel_rfl
        have HK := Lib.hid e
        clear e
        by_cases hs : x5 < 0
        · rw [HK.out] at kn
          have c0 := kn.cell 0
          have f0 := kn.frozen 0
          have c1 := kn.cell 1
          have f1 := kn.frozen 1
          have c2 := kn.cell 2
          have f2 := kn.frozen 2
          have c3 := kn.cell 3
          have f3 := kn.frozen 3
          have c4 := kn.cell 4
          have f4 := kn.frozen 4
          have c5 := kn.cell 5
          have f5 := kn.frozen 5
          have c6 := kn.cell 6
          have f6 := kn.frozen 6
          have c7 := kn.cell 7
          have f7 := kn.frozen 7
          simp only [nX, List.getElem?_cons_zero, List.getElem?_cons_succ] at c0 c1 c2 c3 c4 c5 c6 c7
          go_wp2
          obtain ⟨kf, bf⟩ := set8 (.int .u64 x0) (.int .u64 x1) (.int .u64 0) (.int .u64 0) (.int .u64 x4) (.int .u64 0) (.int .u64 0) (.int .u64 0) kn bq (by have := HG.out; omega)
          refine bodyPost_ret (results_ct' rfl _ _ (G + 1) 57 #[.int .u64 x0, .int .u64 x1, .int .u64 0, .int .u64 0, .int .u64 x4, .int .u64 0, .int .u64 0, .int .u64 0] (0, 0) _ rfl kf Tryd.underlying57 rfl (by kernel_rfl)) rfl ?_
          exact ⟨_, _, _, _, _, _, _, _, false, rfl, bf, .inr ⟨rfl, by unfold Pos6; omega⟩⟩
        · have hs0 : 0 ≤ x5 := by omega
          have hwx := wrap_u x5 hs0 h5.2
          have cc : wr.cell? ⟨G + 1, k, none⟩ = some (.int .u64 0) := by rw [HK.out]; rw [HK.out] at kn; exact kn.cell 5
          have ff := kn.frozen k
          have ks : Blk (wr.setCell ⟨G + 1, k, none⟩ (.int .u64 x5)) (G + 1) 57 (nX x0 x1 x4 x5 x6 x7 (k + 1)) := by rw [HK.out]; rw [HK.out] at kn; exact kn.set_ 5 _
          have ts := kt.far (p := ⟨G + 1, k, none⟩) (show G ≠ G + 1 by omega) (.int .u64 x5)
          have bs := below_frm bq bq.size ((Frm.refl (fun q => q = G + 1) wr).setCell (p := ⟨G + 1, k, none⟩) (fun _ => rfl) (.int .u64 x5)) (fun q hq => by rw [hq]; have := HG.out; omega)
          have hps : PosK x0 x1 x4 x5 x6 x7 (k + 1) := by have h1 := HP.out; have h2 := HK.out; unfold PosK at h1 ⊢; omega
          have HPS := Lib.hid hps
          clear kn kt bq hps
          go_wp2
          go_roundw
          case rel => exact ⟨k + 1, by omega, by go_num, HPS.out, ks, ts, bs⟩
          case measure => simp [intI]; omega
      · have hi : ∀ wx : World, (Instr.index 90 (.agg #[.int .i64 x0, .int .i64 x1, .int .i64 0, .int .i64 0, .int .i64 x4, .int .i64 x5, .int .i64 x6, .int .i64 x7]) (.int .i64 (k : Int))).run Tryd.prog wx = .ok (.int .i64 x6) wx := fun wx => by rw [e]; kernel_rfl
        have HK := Lib.hid e
        clear e
        by_cases hs : x6 < 0
        · rw [HK.out] at kn
          have c0 := kn.cell 0
          have f0 := kn.frozen 0
          have c1 := kn.cell 1
          have f1 := kn.frozen 1
          have c2 := kn.cell 2
          have f2 := kn.frozen 2
          have c3 := kn.cell 3
          have f3 := kn.frozen 3
          have c4 := kn.cell 4
          have f4 := kn.frozen 4
          have c5 := kn.cell 5
          have f5 := kn.frozen 5
          have c6 := kn.cell 6
          have f6 := kn.frozen 6
          have c7 := kn.cell 7
          have f7 := kn.frozen 7
          simp only [nX, List.getElem?_cons_zero, List.getElem?_cons_succ] at c0 c1 c2 c3 c4 c5 c6 c7
          go_wp2
          obtain ⟨kf, bf⟩ := set8 (.int .u64 x0) (.int .u64 x1) (.int .u64 0) (.int .u64 0) (.int .u64 x4) (.int .u64 x5) (.int .u64 0) (.int .u64 0) kn bq (by have := HG.out; omega)
          refine bodyPost_ret (results_ct' rfl _ _ (G + 1) 57 #[.int .u64 x0, .int .u64 x1, .int .u64 0, .int .u64 0, .int .u64 x4, .int .u64 x5, .int .u64 0, .int .u64 0] (0, 0) _ rfl kf Tryd.underlying57 rfl (by kernel_rfl)) rfl ?_
          exact ⟨_, _, _, _, _, _, _, _, false, rfl, bf, .inr ⟨rfl, by unfold Pos6; omega⟩⟩
        · have hs0 : 0 ≤ x6 := by omega
          have hwx := wrap_u x6 hs0 h6.2
          have cc : wr.cell? ⟨G + 1, k, none⟩ = some (.int .u64 0) := by rw [HK.out]; rw [HK.out] at kn; exact kn.cell 6
          have ff := kn.frozen k
          have ks : Blk (wr.setCell ⟨G + 1, k, none⟩ (.int .u64 x6)) (G + 1) 57 (nX x0 x1 x4 x5 x6 x7 (k + 1)) := by rw [HK.out]; rw [HK.out] at kn; exact kn.set_ 6 _
          have ts := kt.far (p := ⟨G + 1, k, none⟩) (show G ≠ G + 1 by omega) (.int .u64 x6)
          have bs := below_frm bq bq.size ((Frm.refl (fun q => q = G + 1) wr).setCell (p := ⟨G + 1, k, none⟩) (fun _ => rfl) (.int .u64 x6)) (fun q hq => by rw [hq]; have := HG.out; omega)
          have hps : PosK x0 x1 x4 x5 x6 x7 (k + 1) := by have h1 := HP.out; have h2 := HK.out; unfold PosK at h1 ⊢; omega
          have HPS := Lib.hid hps
          clear kn kt bq hps
          go_wp2
          go_roundw
          case rel => exact ⟨k + 1, by omega, by go_num, HPS.out, ks, ts, bs⟩
          case measure => simp [intI]; omega
      · have hi : ∀ wx : World, (Instr.index 90 (.agg #[.int .i64 x0, .int .i64 x1, .int .i64 0, .int .i64 0, .int .i64 x4, .int .i64 x5, .int .i64 x6, .int .i64 x7]) (.int .i64 (k : Int))).run Tryd.prog wx = .ok (.int .i64 x7) wx := fun wx => by rw [e]; kernel_rfl
        have HK := Lib.hid e
        clear e
        by_cases hs : x7 < 0
        · rw [HK.out] at kn
          have c0 := kn.cell 0
          have f0 := kn.frozen 0
          have c1 := kn.cell 1
          have f1 := kn.frozen 1
          have c2 := kn.cell 2
          have f2 := kn.frozen 2
          have c3 := kn.cell 3
          have f3 := kn.frozen 3
          have c4 := kn.cell 4
          have f4 := kn.frozen 4
          have c5 := kn.cell 5
          have f5 := kn.frozen 5
          have c6 := kn.cell 6
          have f6 := kn.frozen 6
          have c7 := kn.cell 7
          have f7 := kn.frozen 7
          simp only [nX, List.getElem?_cons_zero, List.getElem?_cons_succ] at c0 c1 c2 c3 c4 c5 c6 c7
          go_wp2
          obtain ⟨kf, bf⟩ := set8 (.int .u64 x0) (.int .u64 x1) (.int .u64 0) (.int .u64 0) (.int .u64 x4) (.int .u64 x5) (.int .u64 x6) (.int .u64 0) kn bq (by have := HG.out; omega)
          refine bodyPost_ret (results_ct' rfl _ _ (G + 1) 57 #[.int .u64 x0, .int .u64 x1, .int .u64 0, .int .u64 0, .int .u64 x4, .int .u64 x5, .int .u64 x6, .int .u64 0] (0, 0) _ rfl kf Tryd.underlying57 rfl (by kernel_rfl)) rfl ?_
          exact ⟨_, _, _, _, _, _, _, _, false, rfl, bf, .inr ⟨rfl, by unfold Pos6; omega⟩⟩
        · have hs0 : 0 ≤ x7 := by omega
          have hwx := wrap_u x7 hs0 h7.2
          have cc : wr.cell? ⟨G + 1, k, none⟩ = some (.int .u64 0) := by rw [HK.out]; rw [HK.out] at kn; exact kn.cell 7
          have ff := kn.frozen k
          have ks : Blk (wr.setCell ⟨G + 1, k, none⟩ (.int .u64 x7)) (G + 1) 57 (nX x0 x1 x4 x5 x6 x7 (k + 1)) := by rw [HK.out]; rw [HK.out] at kn; exact kn.set_ 7 _
          have ts := kt.far (p := ⟨G + 1, k, none⟩) (show G ≠ G + 1 by omega) (.int .u64 x7)
          have bs := below_frm bq bq.size ((Frm.refl (fun q => q = G + 1) wr).setCell (p := ⟨G + 1, k, none⟩) (fun _ => rfl) (.int .u64 x7)) (fun q hq => by rw [hq]; have := HG.out; omega)
          have hps : PosK x0 x1 x4 x5 x6 x7 (k + 1) := by have h1 := HP.out; have h2 := HK.out; unfold PosK at h1 ⊢; omega
          have HPS := Lib.hid hps
          clear kn kt bq hps
          go_wp2
          go_roundw
          case rel => exact ⟨k + 1, by omega, by go_num, HPS.out, ks, ts, bs⟩
          case measure => simp [intI]; omega
    · obtain rfl : k = 8 := by omega
      have g2 := kt.cell 2
      have g3 := kt.cell 3
      have n2 := kn.cell 2
      have n3 := kn.cell 3
      have z2 := kn.frozen 2
      have z3 := kn.frozen 3
      simp only [nX, List.getElem?_cons_zero, List.getElem?_cons_succ] at g2 g3 n2 n3
      have hne : G ≠ G + 1 := by omega
      go_upto_region 9 with fail
      go_cut [] (fun wx => Blk wx (G + 1) 57 [.int .u64 x0, .int .u64 x1, .int .u64 x2, .int .u64 x3, .int .u64 x4, .int .u64 x5, .int .u64 x6, .int .u64 x7] ∧ Below w.heap.size w wx)
      case first =>
        go_region
        all_goals
          (have hA : Blk (wr.setCell ⟨G + 1, 2, none⟩ (.int .u64 x2)) (G + 1) 57 _ := kn.set_ 2 _
           have hC : Blk (wr.setCell ⟨G + 1, 3, none⟩ (.int .u64 x3)) (G + 1) 57 _ := kn.set_ 3 _
           have bA := below_frm bq bq.size ((Frm.refl (fun q => q = G + 1) wr).setCell (p := ⟨G + 1, 2, none⟩) (fun _ => rfl) (.int .u64 x2)) (fun q hq => by rw [hq]; have := HG.out; omega)
           have bC := below_frm bq bq.size ((Frm.refl (fun q => q = G + 1) wr).setCell (p := ⟨G + 1, 3, none⟩) (fun _ => rfl) (.int .u64 x3)) (fun q hq => by rw [hq]; have := HG.out; omega)
           have hAC : Blk ((wr.setCell ⟨G + 1, 2, none⟩ (.int .u64 x2)).setCell ⟨G + 1, 3, none⟩ (.int .u64 x3)) (G + 1) 57 [.int .u64 x0, .int .u64 x1, .int .u64 x2, .int .u64 x3, .int .u64 x4, .int .u64 x5, .int .u64 x6, .int .u64 x7] := hA.set_ 3 _
           have hCA : Blk ((wr.setCell ⟨G + 1, 3, none⟩ (.int .u64 x3)).setCell ⟨G + 1, 2, none⟩ (.int .u64 x2)) (G + 1) 57 [.int .u64 x0, .int .u64 x1, .int .u64 x2, .int .u64 x3, .int .u64 x4, .int .u64 x5, .int .u64 x6, .int .u64 x7] := hC.set_ 2 _
           have bAC := below_frm bA bA.size ((Frm.refl (fun q => q = G + 1) _).setCell (p := ⟨G + 1, 3, none⟩) (fun _ => rfl) (.int .u64 x3)) (fun q hq => by rw [hq]; have := HG.out; omega)
           have bCA := below_frm bC bC.size ((Frm.refl (fun q => q = G + 1) _).setCell (p := ⟨G + 1, 2, none⟩) (fun _ => rfl) (.int .u64 x2)) (fun q hq => by rw [hq]; have := HG.out; omega)
           go_wp2_with fail
           go_meet
           first | exact ⟨hAC.drew, bel_drew bAC⟩ | exact ⟨hCA.drew, bel_drew bCA⟩)
      case rest =>
        generalize wc = w5 at *
        obtain ⟨k5, b5⟩ := hcut
        clear g2 g3 n2 n3 z2 z3 kn kt bq
        have c0 := k5.cell 0
        have f0 := k5.frozen 0
        have c1 := k5.cell 1
        have f1 := k5.frozen 1
        have c2 := k5.cell 2
        have f2 := k5.frozen 2
        have c3 := k5.cell 3
        have f3 := k5.frozen 3
        have c4 := k5.cell 4
        have f4 := k5.frozen 4
        have c5 := k5.cell 5
        have f5 := k5.frozen 5
        have c6 := k5.cell 6
        have f6 := k5.frozen 6
        have c7 := k5.cell 7
        have f7 := k5.frozen 7
        simp only [List.getElem?_cons_zero, List.getElem?_cons_succ] at c0 c1 c2 c3 c4 c5 c6 c7
        go_wp2
        obtain ⟨kf, bf⟩ := set8 (.int .u64 x0) (.int .u64 x1) (.int .u64 x2) (.int .u64 x3) (.int .u64 x4) (.int .u64 x5) (.int .u64 x6) (.int .u64 x7) k5 b5 (by have := HG.out; omega)
        refine bodyPost_ret (results_ct' rfl _ _ (G + 1) 57 #[.int .u64 x0, .int .u64 x1, .int .u64 x2, .int .u64 x3, .int .u64 x4, .int .u64 x5, .int .u64 x6, .int .u64 x7] (0, 0) _ rfl kf Tryd.underlying57 rfl (by kernel_rfl)) rfl ?_
        have h1 := HP.out
        unfold PosK at h1
        exact ⟨_, _, _, _, _, _, _, _, true, rfl, bf, .inl ⟨rfl, by unfold Pos6; omega, rfl, rfl, rfl, rfl, rfl, rfl, rfl, rfl⟩⟩
end Go.Proofs.YtekbjcagjkcaiaaDoor
