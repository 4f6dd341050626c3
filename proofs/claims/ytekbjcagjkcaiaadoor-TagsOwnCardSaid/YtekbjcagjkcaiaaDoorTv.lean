/- The program's Pack: tags as bytes. -/
import Derived.Test.YtekbjcagjkcaiaaDoorTn
import Derived.Test.YtekbjcagjkcaiaaDoorTu
import Derived.Test.YtekbjcagjkcaiaaDoorTRd
namespace Go.Proofs.YtekbjcagjkcaiaaDoor
open Go.RowKit
set_option linter.unusedVariables false
set_option linter.unusedSimpArgs false
theorem putR_zero (P : List UInt8) (m sz v : Nat) (x y : Int) (hx : x = P.length) (hy : y = sz) (h1 : 1 ≤ sz) (h8 : sz ≤ 8) (hm : sz ≤ m) (hv : v < 256 ^ sz) :
    putR (P ++ List.replicate m 0) x y v = (P ++ leb v sz ++ List.replicate (m - sz) 0, 0) := by
  subst hx hy
  unfold putR
  rw [if_neg (by simp; omega), if_neg (by simp; omega)]
  unfold putB
  simp [List.drop_append, List.take_append]
theorem putR_bad (l : List UInt8) (sz v : Nat) (x y : Int) (hy : y = sz) (hv : 256 ^ sz ≤ v) : putR l x y v = (l, 11) := by
  subst hy
  unfold putR
  rw [if_pos (by simp; omega)]
/-- Tags as bytes. -/
def packB (v0 v1 v2 v3 v4 v5 v6 v7 : Nat) : List UInt8 := leb v0 1 ++ leb v1 1 ++ leb v2 6 ++ leb v3 6 ++ leb v4 4 ++ leb v5 4 ++ leb v6 2 ++ leb v7 2
theorem packB_len (v0 v1 v2 v3 v4 v5 v6 v7 : Nat) : (packB v0 v1 v2 v3 v4 v5 v6 v7).length = 26 := by unfold packB; simp [leb_len]
def pkS (v0 v1 v2 v3 v4 v5 v6 v7 : Nat) : Nat → List UInt8
  | 0 => [] ++ List.replicate 26 0
  | 1 => leb v0 1 ++ List.replicate 25 0
  | 2 => leb v0 1 ++ leb v1 1 ++ List.replicate 24 0
  | 3 => leb v0 1 ++ leb v1 1 ++ leb v2 6 ++ List.replicate 18 0
  | 4 => leb v0 1 ++ leb v1 1 ++ leb v2 6 ++ leb v3 6 ++ List.replicate 12 0
  | 5 => leb v0 1 ++ leb v1 1 ++ leb v2 6 ++ leb v3 6 ++ leb v4 4 ++ List.replicate 8 0
  | 6 => leb v0 1 ++ leb v1 1 ++ leb v2 6 ++ leb v3 6 ++ leb v4 4 ++ leb v5 4 ++ List.replicate 4 0
  | 7 => leb v0 1 ++ leb v1 1 ++ leb v2 6 ++ leb v3 6 ++ leb v4 4 ++ leb v5 4 ++ leb v6 2 ++ List.replicate 2 0
  | _ => leb v0 1 ++ leb v1 1 ++ leb v2 6 ++ leb v3 6 ++ leb v4 4 ++ leb v5 4 ++ leb v6 2 ++ leb v7 2 ++ List.replicate 0 0
theorem pkS_len (v0 v1 v2 v3 v4 v5 v6 v7 : Nat) (k : Nat) : (pkS v0 v1 v2 v3 v4 v5 v6 v7 k).length = 26 := by
  match k with
  | 0 | 1 | 2 | 3 | 4 | 5 | 6 | 7 | _ + 8 => simp [pkS, leb_len]
theorem pkS_end (v0 v1 v2 v3 v4 v5 v6 v7 : Nat) : pkS v0 v1 v2 v3 v4 v5 v6 v7 8 = packB v0 v1 v2 v3 v4 v5 v6 v7 := by simp [pkS, packB]
/-- Tags whose numbers fit. -/
def FitI (x0 x1 x2 x3 x4 x5 x6 x7 : Int) : Prop := (0 ≤ x0 ∧ x0 ≤ 255) ∧ (0 ≤ x1 ∧ x1 ≤ 255) ∧ (0 ≤ x2 ∧ x2 ≤ 281474976710655) ∧ (0 ≤ x3 ∧ x3 ≤ 281474976710655) ∧ (0 ≤ x4 ∧ x4 ≤ 4294967295) ∧ (0 ≤ x5 ∧ x5 ≤ 4294967295) ∧ (0 ≤ x6 ∧ x6 ≤ 65535) ∧ (0 ≤ x7 ∧ x7 ≤ 65535)
def FitV (v0 v1 v2 v3 v4 v5 v6 v7 : Nat) : Prop := v0 < 256 ∧ v1 < 256 ∧ v2 < 281474976710656 ∧ v3 < 281474976710656 ∧ v4 < 4294967296 ∧ v5 < 4294967296 ∧ v6 < 65536 ∧ v7 < 65536
def FitK (v0 v1 v2 v3 v4 v5 v6 v7 : Nat) (k : Nat) : Prop := (0 < k → v0 < 256) ∧ (1 < k → v1 < 256) ∧ (2 < k → v2 < 281474976710656) ∧ (3 < k → v3 < 281474976710656) ∧ (4 < k → v4 < 4294967296) ∧ (5 < k → v5 < 4294967296) ∧ (6 < k → v6 < 65536) ∧ (7 < k → v7 < 65536)
def PackP (x0 x1 x2 x3 x4 x5 x6 x7 : Int) (w : World) (e : Ending) (w' : World) : Prop :=
  (∃ v0 v1 v2 v3 v4 v5 v6 v7 : Nat, (x0 = v0 ∧ x1 = v1 ∧ x2 = v2 ∧ x3 = v3 ∧ x4 = v4 ∧ x5 = v5 ∧ x6 = v6 ∧ x7 = v7) ∧ FitV v0 v1 v2 v3 v4 v5 v6 v7 ∧ ∃ A c sp, e = .returned (.tuple #[.slice A 26 c, .int .i64 0]) ∧ Owx w' 5 1 (.slice A 26 c) 26 (u8s (packB v0 v1 v2 v3 v4 v5 v6 v7)) sp ∧ (∀ q, (Value.slice A 26 c).ownBlock = some q → w.heap.size ≤ q) ∧ Below w.heap.size w w') ∨
  (¬ FitI x0 x1 x2 x3 x4 x5 x6 x7 ∧ e = .returned (.tuple #[.slice none 0 0, .int .i64 61]) ∧ Below w.heap.size w w')
set_option maxRecDepth 100000 in
set_option maxHeartbeats 6400000 in
theorem Pack_any (x0 x1 x2 x3 x4 x5 x6 x7 : Int) (h0 : -9223372036854775808 ≤ x0 ∧ x0 ≤ 9223372036854775807) (h1 : -9223372036854775808 ≤ x1 ∧ x1 ≤ 9223372036854775807) (h2 : 0 ≤ x2 ∧ x2 ≤ 18446744073709551615) (h3 : 0 ≤ x3 ∧ x3 ≤ 18446744073709551615) (h4 : -9223372036854775808 ≤ x4 ∧ x4 ≤ 9223372036854775807) (h5 : -9223372036854775808 ≤ x5 ∧ x5 ≤ 9223372036854775807) (h6 : -9223372036854775808 ≤ x6 ∧ x6 ≤ 9223372036854775807) (h7 : -9223372036854775808 ≤ x7 ∧ x7 ≤ 9223372036854775807) (w : World) (hL : LayT w) :
    Calls Tryd.prog 20 #[.agg #[.int .i64 x0, .int .i64 x1, .int .u64 x2, .int .u64 x3, .int .i64 x4, .int .i64 x5, .int .i64 x6, .int .i64 x7]] w (PackP x0 x1 x2 x3 x4 x5 x6 x7 w) := by
  obtain ⟨w1, hw1⟩ : ∃ x, x = w.alloc (.cells #[.int .i64 x0, .int .i64 x1, .int .u64 x2, .int .u64 x3, .int .i64 x4, .int .i64 x5, .int .i64 x6, .int .i64 x7] 25) := ⟨_, rfl⟩
  have hB : Below w.heap.size w w1 := by rw [hw1]; exact (Below.refl _ w).alloc (Nat.le_refl _) _
  have ht : Blk w1 w.heap.size 25 [.int .i64 x0, .int .i64 x1, .int .u64 x2, .int .u64 x3, .int .i64 x4, .int .i64 x5, .int .i64 x6, .int .i64 x7] := by rw [hw1]; exact Blk.new w _ _
  have hnum := numbers_any x0 x1 x2 x3 x4 x5 x6 x7 h0 h1 h4 h5 h6 h7 w1
  obtain ⟨G, hG⟩ : ∃ G, G = w.heap.size := ⟨_, rfl⟩
  have hmk := fun wx => run_makeN wx 22 5 _ Tryd.underlying22 info5 rfl 26 26 rfl (by omega)
  have HLT := Lib.hid hL
  clear hL
  go_enter Tryd.func20, Tryd.ntmps20
  go_upto_region 1 with fail
  rw [← hw1, ← hG]
  rw [← hG] at ht
  have HG := Lib.hid hG
  clear hw1 hG
  have c0 : w1.cell? ⟨G, 0, none⟩ = some (.int .i64 x0) := ht.cell 0
  have c1 : w1.cell? ⟨G, 1, none⟩ = some (.int .i64 x1) := ht.cell 1
  have c2 : w1.cell? ⟨G, 2, none⟩ = some (.int .u64 x2) := ht.cell 2
  have c3 : w1.cell? ⟨G, 3, none⟩ = some (.int .u64 x3) := ht.cell 3
  have c4 : w1.cell? ⟨G, 4, none⟩ = some (.int .i64 x4) := ht.cell 4
  have c5 : w1.cell? ⟨G, 5, none⟩ = some (.int .i64 x5) := ht.cell 5
  have c6 : w1.cell? ⟨G, 6, none⟩ = some (.int .i64 x6) := ht.cell 6
  have c7 : w1.cell? ⟨G, 7, none⟩ = some (.int .i64 x7) := ht.cell 7
  go_wp2_with fail
  with_reducible refine hnum.mono ?_
  rintro e w2 ⟨y0, y1, y2, y3, y4, y5, y6, y7, b, rfl, b2, hcase⟩
  replace hB := hB.trans (b2.mono hB.size)
  clear hnum b2 c0 c1 c2 c3 c4 c5 c6 c7 ht
  rcases hcase with ⟨rfl, hpos, e0, e1, e2, e3, e4, e5, e6, e7⟩ | ⟨rfl, hneg⟩
  · unfold Pos6 at hpos
    obtain ⟨v0, hv0⟩ : ∃ v : Nat, x0 = v := ⟨x0.toNat, by omega⟩
    rw [hv0] at e0
    rw [e0]
    obtain ⟨v1, hv1⟩ : ∃ v : Nat, x1 = v := ⟨x1.toNat, by omega⟩
    rw [hv1] at e1
    rw [e1]
    obtain ⟨v2, hv2⟩ : ∃ v : Nat, x2 = v := ⟨x2.toNat, by omega⟩
    rw [hv2] at e2
    rw [e2]
    obtain ⟨v3, hv3⟩ : ∃ v : Nat, x3 = v := ⟨x3.toNat, by omega⟩
    rw [hv3] at e3
    rw [e3]
    obtain ⟨v4, hv4⟩ : ∃ v : Nat, x4 = v := ⟨x4.toNat, by omega⟩
    rw [hv4] at e4
    rw [e4]
    obtain ⟨v5, hv5⟩ : ∃ v : Nat, x5 = v := ⟨x5.toNat, by omega⟩
    rw [hv5] at e5
    rw [e5]
    obtain ⟨v6, hv6⟩ : ∃ v : Nat, x6 = v := ⟨x6.toNat, by omega⟩
    rw [hv6] at e6
    rw [e6]
    obtain ⟨v7, hv7⟩ : ∃ v : Nat, x7 = v := ⟨x7.toNat, by omega⟩
    rw [hv7] at e7
    rw [e7]
    clear e0 e1 e2 e3 e4 e5 e6 e7
    have HX := Lib.hid (show x0 = v0 ∧ x1 = v1 ∧ x2 = v2 ∧ x3 = v3 ∧ x4 = v4 ∧ x5 = v5 ∧ x6 = v6 ∧ x7 = v7 from ⟨hv0, hv1, hv2, hv3, hv4, hv5, hv6, hv7⟩)
    have hvb : v2 < 18446744073709551616 ∧ v3 < 18446744073709551616 ∧ v0 < 9223372036854775808 ∧ v1 < 9223372036854775808 ∧ v4 < 9223372036854775808 ∧ v5 < 9223372036854775808 ∧ v6 < 9223372036854775808 ∧ v7 < 9223372036854775808 := by omega
    have HVB := Lib.hid hvb
    clear hvb hpos hv0 hv1 hv2 hv3 hv4 hv5 hv6 hv7 h0 h1 h2 h3 h4 h5 h6 h7
    go_upto_region 2 with fail
    obtain ⟨w3, hw3⟩ : ∃ x, x = w2.alloc (.cells #[.int .u64 (v0 : Int), .int .u64 (v1 : Int), .int .u64 (v2 : Int), .int .u64 (v3 : Int), .int .u64 (v4 : Int), .int .u64 (v5 : Int), .int .u64 (v6 : Int), .int .u64 (v7 : Int)] 57) := ⟨_, rfl⟩
    have k3 : Blk w3 w2.heap.size 57 [.int .u64 (v0 : Int), .int .u64 (v1 : Int), .int .u64 (v2 : Int), .int .u64 (v3 : Int), .int .u64 (v4 : Int), .int .u64 (v5 : Int), .int .u64 (v6 : Int), .int .u64 (v7 : Int)] := by rw [hw3]; exact Blk.new w2 _ _
    have b3 : Below w.heap.size w w3 := by rw [hw3]; exact hB.alloc hB.size _
    have hs3 : w.heap.size ≤ w2.heap.size := hB.size
    rw [← hw3]
    obtain ⟨N, hN⟩ : ∃ N, N = w2.heap.size := ⟨_, rfl⟩
    rw [← hN] at k3 hs3 ⊢
    clear hw3 hN hB
    go_upto_region 5 with fail
    obtain ⟨w4, hw4⟩ : ∃ x, x = w3.alloc (.cells #[.int .u8 0, .int .u8 0, .int .u8 0, .int .u8 0, .int .u8 0, .int .u8 0, .int .u8 0, .int .u8 0, .int .u8 0, .int .u8 0, .int .u8 0, .int .u8 0, .int .u8 0, .int .u8 0, .int .u8 0, .int .u8 0, .int .u8 0, .int .u8 0, .int .u8 0, .int .u8 0, .int .u8 0, .int .u8 0, .int .u8 0, .int .u8 0, .int .u8 0, .int .u8 0] 5) := ⟨_, rfl⟩
    have kb0 : Blk w4 w3.heap.size 5 [.int .u8 0, .int .u8 0, .int .u8 0, .int .u8 0, .int .u8 0, .int .u8 0, .int .u8 0, .int .u8 0, .int .u8 0, .int .u8 0, .int .u8 0, .int .u8 0, .int .u8 0, .int .u8 0, .int .u8 0, .int .u8 0, .int .u8 0, .int .u8 0, .int .u8 0, .int .u8 0, .int .u8 0, .int .u8 0, .int .u8 0, .int .u8 0, .int .u8 0, .int .u8 0] := by rw [hw4]; exact Blk.new w3 _ _
    have kb : Blk w4 w3.heap.size 5 (u8s (pkS v0 v1 v2 v3 v4 v5 v6 v7 0)) := by rw [show u8s (pkS v0 v1 v2 v3 v4 v5 v6 v7 0) = [.int .u8 0, .int .u8 0, .int .u8 0, .int .u8 0, .int .u8 0, .int .u8 0, .int .u8 0, .int .u8 0, .int .u8 0, .int .u8 0, .int .u8 0, .int .u8 0, .int .u8 0, .int .u8 0, .int .u8 0, .int .u8 0, .int .u8 0, .int .u8 0, .int .u8 0, .int .u8 0, .int .u8 0, .int .u8 0, .int .u8 0, .int .u8 0, .int .u8 0, .int .u8 0] from rfl]; exact kb0
    clear kb0
    have k4 : Blk w4 N 57 [.int .u64 (v0 : Int), .int .u64 (v1 : Int), .int .u64 (v2 : Int), .int .u64 (v3 : Int), .int .u64 (v4 : Int), .int .u64 (v5 : Int), .int .u64 (v6 : Int), .int .u64 (v7 : Int)] := by rw [hw4]; exact k3.alloc _
    have b4 : Below w.heap.size w w4 := by rw [hw4]; exact b3.alloc b3.size _
    have hNg : N < w3.heap.size := k3.lt
    rw [← hw4]
    obtain ⟨g, hg⟩ : ∃ g, g = w3.heap.size := ⟨_, rfl⟩
    rw [← hg] at kb hNg ⊢
    clear hw4 hg k3 b3 hmk
    have hL4 := HLT.out.below b4
    have t0 : w4.cell? ⟨0, 0, none⟩ = some (.int .i64 0) := hL4 0 (by decide)
    have t1 : w4.cell? ⟨0, 1, none⟩ = some (.int .i64 1) := hL4 1 (by decide)
    have t2 : w4.cell? ⟨0, 2, none⟩ = some (.int .i64 1) := hL4 2 (by decide)
    have t3 : w4.cell? ⟨0, 3, none⟩ = some (.int .i64 1) := hL4 3 (by decide)
    have t4 : w4.cell? ⟨0, 4, none⟩ = some (.int .i64 2) := hL4 4 (by decide)
    have t5 : w4.cell? ⟨0, 5, none⟩ = some (.int .i64 6) := hL4 5 (by decide)
    have t6 : w4.cell? ⟨0, 6, none⟩ = some (.int .i64 8) := hL4 6 (by decide)
    have t7 : w4.cell? ⟨0, 7, none⟩ = some (.int .i64 6) := hL4 7 (by decide)
    have t8 : w4.cell? ⟨0, 8, none⟩ = some (.int .i64 14) := hL4 8 (by decide)
    have t9 : w4.cell? ⟨0, 9, none⟩ = some (.int .i64 4) := hL4 9 (by decide)
    have t10 : w4.cell? ⟨0, 10, none⟩ = some (.int .i64 18) := hL4 10 (by decide)
    have t11 : w4.cell? ⟨0, 11, none⟩ = some (.int .i64 4) := hL4 11 (by decide)
    have t12 : w4.cell? ⟨0, 12, none⟩ = some (.int .i64 22) := hL4 12 (by decide)
    have t13 : w4.cell? ⟨0, 13, none⟩ = some (.int .i64 2) := hL4 13 (by decide)
    have t14 : w4.cell? ⟨0, 14, none⟩ = some (.int .i64 24) := hL4 14 (by decide)
    have t15 : w4.cell? ⟨0, 15, none⟩ = some (.int .i64 2) := hL4 15 (by decide)
    go_wp2
    clear hL4 t0 t1 t2 t3 t4 t5 t6 t7 t8 t9 t10 t11 t12 t13 t14 t15
    go_loopw [7, 8, 18] (fun i f kk wr => ∃ k : Nat, k ≤ 8 ∧ kk = .int .i64 k ∧ FitK v0 v1 v2 v3 v4 v5 v6 v7 k ∧ Blk wr g 5 (u8s (pkS v0 v1 v2 v3 v4 v5 v6 v7 k)) ∧ Blk wr N 57 [.int .u64 (v0 : Int), .int .u64 (v1 : Int), .int .u64 (v2 : Int), .int .u64 (v3 : Int), .int .u64 (v4 : Int), .int .u64 (v5 : Int), .int .u64 (v6 : Int), .int .u64 (v7 : Int)] ∧ Below w.heap.size w wr) (fun _ _ kk _ => 8 - (intI kk))
    case atStart => exact ⟨0, by omega, rfl, by unfold FitK; omega, kb, k4, b4⟩
    case round =>
      obtain ⟨k, hk, rfl, hfit, kn, kt, bq⟩ := hrel
      clear kb k4 b4
      have HF := Lib.hid hfit
      clear hfit
      by_cases hlt : k < 8
      · obtain e | e | e | e | e | e | e | e : k = 0 ∨ k = 1 ∨ k = 2 ∨ k = 3 ∨ k = 4 ∨ k = 5 ∨ k = 6 ∨ k = 7 := by omega
        · have hi : ∀ wx : World, (Instr.index 60 (.agg #[.int .i64 0, .int .i64 1, .int .i64 1, .int .i64 1, .int .i64 2, .int .i64 6, .int .i64 8, .int .i64 6, .int .i64 14, .int .i64 4, .int .i64 18, .int .i64 4, .int .i64 22, .int .i64 2, .int .i64 24, .int .i64 2]) (.int .i64 (k : Int))).run Tryd.prog wx = .ok (.agg #[.int .i64 0, .int .i64 1]) wx := fun wx => by rw [e]; kernel_rfl
          have HK := Lib.hid e
          clear e
          go_upto_region 8 with fail
          obtain ⟨wa, hwa⟩ : ∃ x, x = wr.alloc (.cells #[.int .i64 0, .int .i64 1] 59) := ⟨_, rfl⟩
          rw [← hwa]
          have ba : Below w.heap.size w wa := by rw [hwa]; exact bq.alloc bq.size _
          have ka : Blk wa g 5 (u8s (pkS v0 v1 v2 v3 v4 v5 v6 v7 0)) := by rw [hwa]; rw [HK.out] at kn; exact kn.alloc _
          have na : Blk wa N 57 [.int .u64 (v0 : Int), .int .u64 (v1 : Int), .int .u64 (v2 : Int), .int .u64 (v3 : Int), .int .u64 (v4 : Int), .int .u64 (v5 : Int), .int .u64 (v6 : Int), .int .u64 (v7 : Int)] := by rw [hwa]; exact kt.alloc _
          have fa : Blk wa wr.heap.size 59 [.int .i64 0, .int .i64 1] := by rw [hwa]; exact Blk.new wr _ _
          obtain ⟨F, hF⟩ : ∃ F, F = wr.heap.size := ⟨_, rfl⟩
          rw [← hF] at fa ⊢
          clear hwa hF kn kt bq hi
          have c0 : wa.cell? ⟨F, 0, none⟩ = some (.int .i64 0) := fa.cell 0
          have c1 : wa.cell? ⟨F, 1, none⟩ = some (.int .i64 1) := fa.cell 1
          have c2 : wa.cell? ⟨N, k, none⟩ = some (.int .u64 (v0 : Int)) := by rw [HK.out]; exact na.cell 0
          have hput := put_any g 0 26 26 (pkS v0 v1 v2 v3 v4 v5 v6 v7 0) [] [] 0 1 v0 wa.drew (pkS_len v0 v1 v2 v3 v4 v5 v6 v7 0) rfl (by simpa using ka.drew) (by decide) (by have := HVB.out; omega) (by decide) (by decide)
          by_cases hv : v0 < 256
          · rw [show putR (pkS v0 v1 v2 v3 v4 v5 v6 v7 0) 0 1 v0 = (pkS v0 v1 v2 v3 v4 v5 v6 v7 1, 0) from putR_zero ([]) 26 1 v0 0 1 (by simp [leb_len]) rfl (by decide) (by decide) (by decide) (by rw [show (256 : Nat) ^ 1 = 256 from by decide]; omega)] at hput
            refine wp_region_still_tail 8 (by kernel_rfl) (by kernel_rfl) ?_
            simp only [List.take_succ_cons, List.take_zero, List.drop_succ_cons, List.drop_zero]
            repeat still_step
            refine wpStill_nil ?_
            change wpList _ _ _ _ _ wa.drew
            go_wp2_with fail
            with_reducible refine hput.mono ?_
            rintro e w5 ⟨rfl, kb5, hf5⟩
            have ks : Blk w5 g 5 (u8s (pkS v0 v1 v2 v3 v4 v5 v6 v7 (k + 1))) := by rw [HK.out]; simpa using kb5
            have ns := (na.drew).frm hf5 (show N ≠ g by omega)
            have bs := below_frm (bel_drew ba) ba.size hf5 (fun q hq => by rw [hq]; omega)
            have hfk : FitK v0 v1 v2 v3 v4 v5 v6 v7 (k + 1) := by have h1 := HF.out; have h2 := HK.out; unfold FitK at h1 ⊢; omega
            have HFK := Lib.hid hfk
            clear c0 c1 c2 hput kb5 hf5 ka na fa ba hfk
            go_wp2
            go_roundw
            case rel => exact ⟨k + 1, by omega, by go_num, HFK.out, ks, ns, bs⟩
            case measure => simp [intI]; omega
          · rw [putR_bad (pkS v0 v1 v2 v3 v4 v5 v6 v7 0) 1 v0 0 1 rfl (by rw [show (256 : Nat) ^ 1 = 256 from by decide]; omega)] at hput
            refine wp_region_still_tail 8 (by kernel_rfl) (by kernel_rfl) ?_
            simp only [List.take_succ_cons, List.take_zero, List.drop_succ_cons, List.drop_zero]
            repeat still_step
            refine wpStill_nil ?_
            change wpList _ _ _ _ _ wa.drew
            go_wp2_with fail
            with_reducible refine hput.mono ?_
            rintro e w5 ⟨rfl, kb5, hf5⟩
            have bs := below_frm (bel_drew ba) ba.size hf5 (fun q hq => by rw [hq]; omega)
            clear c0 c1 c2 hput kb5 hf5 ka na fa ba
            go_wp2
            go_ret2
            exact .inr ⟨by have h1 := HX.out; unfold FitI; omega, rfl, bs⟩
        · have hi : ∀ wx : World, (Instr.index 60 (.agg #[.int .i64 0, .int .i64 1, .int .i64 1, .int .i64 1, .int .i64 2, .int .i64 6, .int .i64 8, .int .i64 6, .int .i64 14, .int .i64 4, .int .i64 18, .int .i64 4, .int .i64 22, .int .i64 2, .int .i64 24, .int .i64 2]) (.int .i64 (k : Int))).run Tryd.prog wx = .ok (.agg #[.int .i64 1, .int .i64 1]) wx := fun wx => by rw [e]; kernel_rfl
          have HK := Lib.hid e
          clear e
          go_upto_region 8 with fail
          obtain ⟨wa, hwa⟩ : ∃ x, x = wr.alloc (.cells #[.int .i64 1, .int .i64 1] 59) := ⟨_, rfl⟩
          rw [← hwa]
          have ba : Below w.heap.size w wa := by rw [hwa]; exact bq.alloc bq.size _
          have ka : Blk wa g 5 (u8s (pkS v0 v1 v2 v3 v4 v5 v6 v7 1)) := by rw [hwa]; rw [HK.out] at kn; exact kn.alloc _
          have na : Blk wa N 57 [.int .u64 (v0 : Int), .int .u64 (v1 : Int), .int .u64 (v2 : Int), .int .u64 (v3 : Int), .int .u64 (v4 : Int), .int .u64 (v5 : Int), .int .u64 (v6 : Int), .int .u64 (v7 : Int)] := by rw [hwa]; exact kt.alloc _
          have fa : Blk wa wr.heap.size 59 [.int .i64 1, .int .i64 1] := by rw [hwa]; exact Blk.new wr _ _
          obtain ⟨F, hF⟩ : ∃ F, F = wr.heap.size := ⟨_, rfl⟩
          rw [← hF] at fa ⊢
          clear hwa hF kn kt bq hi
          have c0 : wa.cell? ⟨F, 0, none⟩ = some (.int .i64 1) := fa.cell 0
          have c1 : wa.cell? ⟨F, 1, none⟩ = some (.int .i64 1) := fa.cell 1
          have c2 : wa.cell? ⟨N, k, none⟩ = some (.int .u64 (v1 : Int)) := by rw [HK.out]; exact na.cell 1
          have hput := put_any g 0 26 26 (pkS v0 v1 v2 v3 v4 v5 v6 v7 1) [] [] 1 1 v1 wa.drew (pkS_len v0 v1 v2 v3 v4 v5 v6 v7 1) rfl (by simpa using ka.drew) (by decide) (by have := HVB.out; omega) (by decide) (by decide)
          by_cases hv : v1 < 256
          · rw [show putR (pkS v0 v1 v2 v3 v4 v5 v6 v7 1) 1 1 v1 = (pkS v0 v1 v2 v3 v4 v5 v6 v7 2, 0) from putR_zero (leb v0 1) 25 1 v1 1 1 (by simp [leb_len]) rfl (by decide) (by decide) (by decide) (by rw [show (256 : Nat) ^ 1 = 256 from by decide]; omega)] at hput
            refine wp_region_still_tail 8 (by kernel_rfl) (by kernel_rfl) ?_
            simp only [List.take_succ_cons, List.take_zero, List.drop_succ_cons, List.drop_zero]
            repeat still_step
            refine wpStill_nil ?_
            change wpList _ _ _ _ _ wa.drew
            go_wp2_with fail
            with_reducible refine hput.mono ?_
            rintro e w5 ⟨rfl, kb5, hf5⟩
            have ks : Blk w5 g 5 (u8s (pkS v0 v1 v2 v3 v4 v5 v6 v7 (k + 1))) := by rw [HK.out]; simpa using kb5
            have ns := (na.drew).frm hf5 (show N ≠ g by omega)
            have bs := below_frm (bel_drew ba) ba.size hf5 (fun q hq => by rw [hq]; omega)
            have hfk : FitK v0 v1 v2 v3 v4 v5 v6 v7 (k + 1) := by have h1 := HF.out; have h2 := HK.out; unfold FitK at h1 ⊢; omega
            have HFK := Lib.hid hfk
            clear c0 c1 c2 hput kb5 hf5 ka na fa ba hfk
            go_wp2
            go_roundw
            case rel => exact ⟨k + 1, by omega, by go_num, HFK.out, ks, ns, bs⟩
            case measure => simp [intI]; omega
          · rw [putR_bad (pkS v0 v1 v2 v3 v4 v5 v6 v7 1) 1 v1 1 1 rfl (by rw [show (256 : Nat) ^ 1 = 256 from by decide]; omega)] at hput
            refine wp_region_still_tail 8 (by kernel_rfl) (by kernel_rfl) ?_
            simp only [List.take_succ_cons, List.take_zero, List.drop_succ_cons, List.drop_zero]
            repeat still_step
            refine wpStill_nil ?_
            change wpList _ _ _ _ _ wa.drew
            go_wp2_with fail
            with_reducible refine hput.mono ?_
            rintro e w5 ⟨rfl, kb5, hf5⟩
            have bs := below_frm (bel_drew ba) ba.size hf5 (fun q hq => by rw [hq]; omega)
            clear c0 c1 c2 hput kb5 hf5 ka na fa ba
            go_wp2
            go_ret2
            exact .inr ⟨by have h1 := HX.out; unfold FitI; omega, rfl, bs⟩
        · have hi : ∀ wx : World, (Instr.index 60 (.agg #[.int .i64 0, .int .i64 1, .int .i64 1, .int .i64 1, .int .i64 2, .int .i64 6, .int .i64 8, .int .i64 6, .int .i64 14, .int .i64 4, .int .i64 18, .int .i64 4, .int .i64 22, .int .i64 2, .int .i64 24, .int .i64 2]) (.int .i64 (k : Int))).run Tryd.prog wx = .ok (.agg #[.int .i64 2, .int .i64 6]) wx := fun wx => by rw [e]; kernel_rfl
          have HK := Lib.hid e
          clear e
          go_upto_region 8 with fail
          obtain ⟨wa, hwa⟩ : ∃ x, x = wr.alloc (.cells #[.int .i64 2, .int .i64 6] 59) := ⟨_, rfl⟩
          rw [← hwa]
          have ba : Below w.heap.size w wa := by rw [hwa]; exact bq.alloc bq.size _
          have ka : Blk wa g 5 (u8s (pkS v0 v1 v2 v3 v4 v5 v6 v7 2)) := by rw [hwa]; rw [HK.out] at kn; exact kn.alloc _
          have na : Blk wa N 57 [.int .u64 (v0 : Int), .int .u64 (v1 : Int), .int .u64 (v2 : Int), .int .u64 (v3 : Int), .int .u64 (v4 : Int), .int .u64 (v5 : Int), .int .u64 (v6 : Int), .int .u64 (v7 : Int)] := by rw [hwa]; exact kt.alloc _
          have fa : Blk wa wr.heap.size 59 [.int .i64 2, .int .i64 6] := by rw [hwa]; exact Blk.new wr _ _
          obtain ⟨F, hF⟩ : ∃ F, F = wr.heap.size := ⟨_, rfl⟩
          rw [← hF] at fa ⊢
          clear hwa hF kn kt bq hi
          have c0 : wa.cell? ⟨F, 0, none⟩ = some (.int .i64 2) := fa.cell 0
          have c1 : wa.cell? ⟨F, 1, none⟩ = some (.int .i64 6) := fa.cell 1
          have c2 : wa.cell? ⟨N, k, none⟩ = some (.int .u64 (v2 : Int)) := by rw [HK.out]; exact na.cell 2
          have hput := put_any g 0 26 26 (pkS v0 v1 v2 v3 v4 v5 v6 v7 2) [] [] 2 6 v2 wa.drew (pkS_len v0 v1 v2 v3 v4 v5 v6 v7 2) rfl (by simpa using ka.drew) (by decide) (by have := HVB.out; omega) (by decide) (by decide)
          by_cases hv : v2 < 281474976710656
          · rw [show putR (pkS v0 v1 v2 v3 v4 v5 v6 v7 2) 2 6 v2 = (pkS v0 v1 v2 v3 v4 v5 v6 v7 3, 0) from putR_zero (leb v0 1 ++ leb v1 1) 24 6 v2 2 6 (by simp [leb_len]) rfl (by decide) (by decide) (by decide) (by rw [show (256 : Nat) ^ 6 = 281474976710656 from by decide]; omega)] at hput
            refine wp_region_still_tail 8 (by kernel_rfl) (by kernel_rfl) ?_
            simp only [List.take_succ_cons, List.take_zero, List.drop_succ_cons, List.drop_zero]
            repeat still_step
            refine wpStill_nil ?_
            change wpList _ _ _ _ _ wa.drew
            go_wp2_with fail
            with_reducible refine hput.mono ?_
            rintro e w5 ⟨rfl, kb5, hf5⟩
            have ks : Blk w5 g 5 (u8s (pkS v0 v1 v2 v3 v4 v5 v6 v7 (k + 1))) := by rw [HK.out]; simpa using kb5
            have ns := (na.drew).frm hf5 (show N ≠ g by omega)
            have bs := below_frm (bel_drew ba) ba.size hf5 (fun q hq => by rw [hq]; omega)
            have hfk : FitK v0 v1 v2 v3 v4 v5 v6 v7 (k + 1) := by have h1 := HF.out; have h2 := HK.out; unfold FitK at h1 ⊢; omega
            have HFK := Lib.hid hfk
            clear c0 c1 c2 hput kb5 hf5 ka na fa ba hfk
            go_wp2
            go_roundw
            case rel => exact ⟨k + 1, by omega, by go_num, HFK.out, ks, ns, bs⟩
            case measure => simp [intI]; omega
          · rw [putR_bad (pkS v0 v1 v2 v3 v4 v5 v6 v7 2) 6 v2 2 6 rfl (by rw [show (256 : Nat) ^ 6 = 281474976710656 from by decide]; omega)] at hput
            refine wp_region_still_tail 8 (by kernel_rfl) (by kernel_rfl) ?_
            simp only [List.take_succ_cons, List.take_zero, List.drop_succ_cons, List.drop_zero]
            repeat still_step
            refine wpStill_nil ?_
            change wpList _ _ _ _ _ wa.drew
            go_wp2_with fail
            with_reducible refine hput.mono ?_
            rintro e w5 ⟨rfl, kb5, hf5⟩
            have bs := below_frm (bel_drew ba) ba.size hf5 (fun q hq => by rw [hq]; omega)
            clear c0 c1 c2 hput kb5 hf5 ka na fa ba
            go_wp2
            go_ret2
            exact .inr ⟨by have h1 := HX.out; unfold FitI; omega, rfl, bs⟩
        · have hi : ∀ wx : World, (Instr.index 60 (.agg #[.int .i64 0, .int .i64 1, .int .i64 1, .int .i64 1, .int .i64 2, .int .i64 6, .int .i64 8, .int .i64 6, .int .i64 14, .int .i64 4, .int .i64 18, .int .i64 4, .int .i64 22, .int .i64 2, .int .i64 24, .int .i64 2]) (.int .i64 (k : Int))).run Tryd.prog wx = .ok (.agg #[.int .i64 8, .int .i64 6]) wx := fun wx => by rw [e]; kernel_rfl
          have HK := Lib.hid e
          clear e
          go_upto_region 8 with fail
          obtain ⟨wa, hwa⟩ : ∃ x, x = wr.alloc (.cells #[.int .i64 8, .int .i64 6] 59) := ⟨_, rfl⟩
          rw [← hwa]
          have ba : Below w.heap.size w wa := by rw [hwa]; exact bq.alloc bq.size _
          have ka : Blk wa g 5 (u8s (pkS v0 v1 v2 v3 v4 v5 v6 v7 3)) := by rw [hwa]; rw [HK.out] at kn; exact kn.alloc _
          have na : Blk wa N 57 [.int .u64 (v0 : Int), .int .u64 (v1 : Int), .int .u64 (v2 : Int), .int .u64 (v3 : Int), .int .u64 (v4 : Int), .int .u64 (v5 : Int), .int .u64 (v6 : Int), .int .u64 (v7 : Int)] := by rw [hwa]; exact kt.alloc _
          have fa : Blk wa wr.heap.size 59 [.int .i64 8, .int .i64 6] := by rw [hwa]; exact Blk.new wr _ _
          obtain ⟨F, hF⟩ : ∃ F, F = wr.heap.size := ⟨_, rfl⟩
          rw [← hF] at fa ⊢
          clear hwa hF kn kt bq hi
          have c0 : wa.cell? ⟨F, 0, none⟩ = some (.int .i64 8) := fa.cell 0
          have c1 : wa.cell? ⟨F, 1, none⟩ = some (.int .i64 6) := fa.cell 1
          have c2 : wa.cell? ⟨N, k, none⟩ = some (.int .u64 (v3 : Int)) := by rw [HK.out]; exact na.cell 3
          have hput := put_any g 0 26 26 (pkS v0 v1 v2 v3 v4 v5 v6 v7 3) [] [] 8 6 v3 wa.drew (pkS_len v0 v1 v2 v3 v4 v5 v6 v7 3) rfl (by simpa using ka.drew) (by decide) (by have := HVB.out; omega) (by decide) (by decide)
          by_cases hv : v3 < 281474976710656
          · rw [show putR (pkS v0 v1 v2 v3 v4 v5 v6 v7 3) 8 6 v3 = (pkS v0 v1 v2 v3 v4 v5 v6 v7 4, 0) from putR_zero (leb v0 1 ++ leb v1 1 ++ leb v2 6) 18 6 v3 8 6 (by simp [leb_len]) rfl (by decide) (by decide) (by decide) (by rw [show (256 : Nat) ^ 6 = 281474976710656 from by decide]; omega)] at hput
            refine wp_region_still_tail 8 (by kernel_rfl) (by kernel_rfl) ?_
            simp only [List.take_succ_cons, List.take_zero, List.drop_succ_cons, List.drop_zero]
            repeat still_step
            refine wpStill_nil ?_
            change wpList _ _ _ _ _ wa.drew
            go_wp2_with fail
            with_reducible refine hput.mono ?_
            rintro e w5 ⟨rfl, kb5, hf5⟩
            have ks : Blk w5 g 5 (u8s (pkS v0 v1 v2 v3 v4 v5 v6 v7 (k + 1))) := by rw [HK.out]; simpa using kb5
            have ns := (na.drew).frm hf5 (show N ≠ g by omega)
            have bs := below_frm (bel_drew ba) ba.size hf5 (fun q hq => by rw [hq]; omega)
            have hfk : FitK v0 v1 v2 v3 v4 v5 v6 v7 (k + 1) := by have h1 := HF.out; have h2 := HK.out; unfold FitK at h1 ⊢; omega
            have HFK := Lib.hid hfk
            clear c0 c1 c2 hput kb5 hf5 ka na fa ba hfk
            go_wp2
            go_roundw
            case rel => exact ⟨k + 1, by omega, by go_num, HFK.out, ks, ns, bs⟩
            case measure => simp [intI]; omega
          · rw [putR_bad (pkS v0 v1 v2 v3 v4 v5 v6 v7 3) 6 v3 8 6 rfl (by rw [show (256 : Nat) ^ 6 = 281474976710656 from by decide]; omega)] at hput
            refine wp_region_still_tail 8 (by kernel_rfl) (by kernel_rfl) ?_
            simp only [List.take_succ_cons, List.take_zero, List.drop_succ_cons, List.drop_zero]
            repeat still_step
            refine wpStill_nil ?_
            change wpList _ _ _ _ _ wa.drew
            go_wp2_with fail
            with_reducible refine hput.mono ?_
            rintro e w5 ⟨rfl, kb5, hf5⟩
            have bs := below_frm (bel_drew ba) ba.size hf5 (fun q hq => by rw [hq]; omega)
            clear c0 c1 c2 hput kb5 hf5 ka na fa ba
            go_wp2
            go_ret2
            exact .inr ⟨by have h1 := HX.out; unfold FitI; omega, rfl, bs⟩
        · have hi : ∀ wx : World, (Instr.index 60 (.agg #[.int .i64 0, .int .i64 1, .int .i64 1, .int .i64 1, .int .i64 2, .int .i64 6, .int .i64 8, .int .i64 6, .int .i64 14, .int .i64 4, .int .i64 18, .int .i64 4, .int .i64 22, .int .i64 2, .int .i64 24, .int .i64 2]) (.int .i64 (k : Int))).run Tryd.prog wx = .ok (.agg #[.int .i64 14, .int .i64 4]) wx := fun wx => by rw [e]; kernel_rfl
          have HK := Lib.hid e
          clear e
          go_upto_region 8 with fail
          obtain ⟨wa, hwa⟩ : ∃ x, x = wr.alloc (.cells #[.int .i64 14, .int .i64 4] 59) := ⟨_, rfl⟩
          rw [← hwa]
          have ba : Below w.heap.size w wa := by rw [hwa]; exact bq.alloc bq.size _
          have ka : Blk wa g 5 (u8s (pkS v0 v1 v2 v3 v4 v5 v6 v7 4)) := by rw [hwa]; rw [HK.out] at kn; exact kn.alloc _
          have na : Blk wa N 57 [.int .u64 (v0 : Int), .int .u64 (v1 : Int), .int .u64 (v2 : Int), .int .u64 (v3 : Int), .int .u64 (v4 : Int), .int .u64 (v5 : Int), .int .u64 (v6 : Int), .int .u64 (v7 : Int)] := by rw [hwa]; exact kt.alloc _
          have fa : Blk wa wr.heap.size 59 [.int .i64 14, .int .i64 4] := by rw [hwa]; exact Blk.new wr _ _
          obtain ⟨F, hF⟩ : ∃ F, F = wr.heap.size := ⟨_, rfl⟩
          rw [← hF] at fa ⊢
          clear hwa hF kn kt bq hi
          have c0 : wa.cell? ⟨F, 0, none⟩ = some (.int .i64 14) := fa.cell 0
          have c1 : wa.cell? ⟨F, 1, none⟩ = some (.int .i64 4) := fa.cell 1
          have c2 : wa.cell? ⟨N, k, none⟩ = some (.int .u64 (v4 : Int)) := by rw [HK.out]; exact na.cell 4
          have hput := put_any g 0 26 26 (pkS v0 v1 v2 v3 v4 v5 v6 v7 4) [] [] 14 4 v4 wa.drew (pkS_len v0 v1 v2 v3 v4 v5 v6 v7 4) rfl (by simpa using ka.drew) (by decide) (by have := HVB.out; omega) (by decide) (by decide)
          by_cases hv : v4 < 4294967296
          · rw [show putR (pkS v0 v1 v2 v3 v4 v5 v6 v7 4) 14 4 v4 = (pkS v0 v1 v2 v3 v4 v5 v6 v7 5, 0) from putR_zero (leb v0 1 ++ leb v1 1 ++ leb v2 6 ++ leb v3 6) 12 4 v4 14 4 (by simp [leb_len]) rfl (by decide) (by decide) (by decide) (by rw [show (256 : Nat) ^ 4 = 4294967296 from by decide]; omega)] at hput
            refine wp_region_still_tail 8 (by kernel_rfl) (by kernel_rfl) ?_
            simp only [List.take_succ_cons, List.take_zero, List.drop_succ_cons, List.drop_zero]
            repeat still_step
            refine wpStill_nil ?_
            change wpList _ _ _ _ _ wa.drew
            go_wp2_with fail
            with_reducible refine hput.mono ?_
            rintro e w5 ⟨rfl, kb5, hf5⟩
            have ks : Blk w5 g 5 (u8s (pkS v0 v1 v2 v3 v4 v5 v6 v7 (k + 1))) := by rw [HK.out]; simpa using kb5
            have ns := (na.drew).frm hf5 (show N ≠ g by omega)
            have bs := below_frm (bel_drew ba) ba.size hf5 (fun q hq => by rw [hq]; omega)
            have hfk : FitK v0 v1 v2 v3 v4 v5 v6 v7 (k + 1) := by have h1 := HF.out; have h2 := HK.out; unfold FitK at h1 ⊢; omega
            have HFK := Lib.hid hfk
            clear c0 c1 c2 hput kb5 hf5 ka na fa ba hfk
            go_wp2
            go_roundw
            case rel => exact ⟨k + 1, by omega, by go_num, HFK.out, ks, ns, bs⟩
            case measure => simp [intI]; omega
          · rw [putR_bad (pkS v0 v1 v2 v3 v4 v5 v6 v7 4) 4 v4 14 4 rfl (by rw [show (256 : Nat) ^ 4 = 4294967296 from by decide]; omega)] at hput
            refine wp_region_still_tail 8 (by kernel_rfl) (by kernel_rfl) ?_
            simp only [List.take_succ_cons, List.take_zero, List.drop_succ_cons, List.drop_zero]
            repeat still_step
            refine wpStill_nil ?_
            change wpList _ _ _ _ _ wa.drew
            go_wp2_with fail
            with_reducible refine hput.mono ?_
            rintro e w5 ⟨rfl, kb5, hf5⟩
            have bs := below_frm (bel_drew ba) ba.size hf5 (fun q hq => by rw [hq]; omega)
            clear c0 c1 c2 hput kb5 hf5 ka na fa ba
            go_wp2
            go_ret2
            exact .inr ⟨by have h1 := HX.out; unfold FitI; omega, rfl, bs⟩
        · have hi : ∀ wx : World, (Instr.index 60 (.agg #[.int .i64 0, .int .i64 1, .int .i64 1, .int .i64 1, .int .i64 2, .int .i64 6, .int .i64 8, .int .i64 6, .int .i64 14, .int .i64 4, .int .i64 18, .int .i64 4, .int .i64 22, .int .i64 2, .int .i64 24, .int .i64 2]) (.int .i64 (k : Int))).run Tryd.prog wx = .ok (.agg #[.int .i64 18, .int .i64 4]) wx := fun wx => by rw [e]; kernel_rfl
          have HK := Lib.hid e
          clear e
          go_upto_region 8 with fail
          obtain ⟨wa, hwa⟩ : ∃ x, x = wr.alloc (.cells #[.int .i64 18, .int .i64 4] 59) := ⟨_, rfl⟩
          rw [← hwa]
          have ba : Below w.heap.size w wa := by rw [hwa]; exact bq.alloc bq.size _
          have ka : Blk wa g 5 (u8s (pkS v0 v1 v2 v3 v4 v5 v6 v7 5)) := by rw [hwa]; rw [HK.out] at kn; exact kn.alloc _
          have na : Blk wa N 57 [.int .u64 (v0 : Int), .int .u64 (v1 : Int), .int .u64 (v2 : Int), .int .u64 (v3 : Int), .int .u64 (v4 : Int), .int .u64 (v5 : Int), .int .u64 (v6 : Int), .int .u64 (v7 : Int)] := by rw [hwa]; exact kt.alloc _
          have fa : Blk wa wr.heap.size 59 [.int .i64 18, .int .i64 4] := by rw [hwa]; exact Blk.new wr _ _
          obtain ⟨F, hF⟩ : ∃ F, F = wr.heap.size := ⟨_, rfl⟩
          rw [← hF] at fa ⊢
          clear hwa hF kn kt bq hi
          have c0 : wa.cell? ⟨F, 0, none⟩ = some (.int .i64 18) := fa.cell 0
          have c1 : wa.cell? ⟨F, 1, none⟩ = some (.int .i64 4) := fa.cell 1
          have c2 : wa.cell? ⟨N, k, none⟩ = some (.int .u64 (v5 : Int)) := by rw [HK.out]; exact na.cell 5
          have hput := put_any g 0 26 26 (pkS v0 v1 v2 v3 v4 v5 v6 v7 5) [] [] 18 4 v5 wa.drew (pkS_len v0 v1 v2 v3 v4 v5 v6 v7 5) rfl (by simpa using ka.drew) (by decide) (by have := HVB.out; omega) (by decide) (by decide)
          by_cases hv : v5 < 4294967296
          · rw [show putR (pkS v0 v1 v2 v3 v4 v5 v6 v7 5) 18 4 v5 = (pkS v0 v1 v2 v3 v4 v5 v6 v7 6, 0) from putR_zero (leb v0 1 ++ leb v1 1 ++ leb v2 6 ++ leb v3 6 ++ leb v4 4) 8 4 v5 18 4 (by simp [leb_len]) rfl (by decide) (by decide) (by decide) (by rw [show (256 : Nat) ^ 4 = 4294967296 from by decide]; omega)] at hput
            refine wp_region_still_tail 8 (by kernel_rfl) (by kernel_rfl) ?_
            simp only [List.take_succ_cons, List.take_zero, List.drop_succ_cons, List.drop_zero]
            repeat still_step
            refine wpStill_nil ?_
            change wpList _ _ _ _ _ wa.drew
            go_wp2_with fail
            with_reducible refine hput.mono ?_
            rintro e w5 ⟨rfl, kb5, hf5⟩
            have ks : Blk w5 g 5 (u8s (pkS v0 v1 v2 v3 v4 v5 v6 v7 (k + 1))) := by rw [HK.out]; simpa using kb5
            have ns := (na.drew).frm hf5 (show N ≠ g by omega)
            have bs := below_frm (bel_drew ba) ba.size hf5 (fun q hq => by rw [hq]; omega)
            have hfk : FitK v0 v1 v2 v3 v4 v5 v6 v7 (k + 1) := by have h1 := HF.out; have h2 := HK.out; unfold FitK at h1 ⊢; omega
            have HFK := Lib.hid hfk
            clear c0 c1 c2 hput kb5 hf5 ka na fa ba hfk
            go_wp2
            go_roundw
            case rel => exact ⟨k + 1, by omega, by go_num, HFK.out, ks, ns, bs⟩
            case measure => simp [intI]; omega
          · rw [putR_bad (pkS v0 v1 v2 v3 v4 v5 v6 v7 5) 4 v5 18 4 rfl (by rw [show (256 : Nat) ^ 4 = 4294967296 from by decide]; omega)] at hput
            refine wp_region_still_tail 8 (by kernel_rfl) (by kernel_rfl) ?_
            simp only [List.take_succ_cons, List.take_zero, List.drop_succ_cons, List.drop_zero]
            repeat still_step
            refine wpStill_nil ?_
            change wpList _ _ _ _ _ wa.drew
            go_wp2_with fail
            with_reducible refine hput.mono ?_
            rintro e w5 ⟨rfl, kb5, hf5⟩
            have bs := below_frm (bel_drew ba) ba.size hf5 (fun q hq => by rw [hq]; omega)
            clear c0 c1 c2 hput kb5 hf5 ka na fa ba
            go_wp2
            go_ret2
            exact .inr ⟨by have h1 := HX.out; unfold FitI; omega, rfl, bs⟩
        · have hi : ∀ wx : World, (Instr.index 60 (.agg #[.int .i64 0, .int .i64 1, .int .i64 1, .int .i64 1, .int .i64 2, .int .i64 6, .int .i64 8, .int .i64 6, .int .i64 14, .int .i64 4, .int .i64 18, .int .i64 4, .int .i64 22, .int .i64 2, .int .i64 24, .int .i64 2]) (.int .i64 (k : Int))).run Tryd.prog wx = .ok (.agg #[.int .i64 22, .int .i64 2]) wx := fun wx => by rw [e]; kernel_rfl
          have HK := Lib.hid e
          clear e
          go_upto_region 8 with fail
          obtain ⟨wa, hwa⟩ : ∃ x, x = wr.alloc (.cells #[.int .i64 22, .int .i64 2] 59) := ⟨_, rfl⟩
          rw [← hwa]
          have ba : Below w.heap.size w wa := by rw [hwa]; exact bq.alloc bq.size _
          have ka : Blk wa g 5 (u8s (pkS v0 v1 v2 v3 v4 v5 v6 v7 6)) := by rw [hwa]; rw [HK.out] at kn; exact kn.alloc _
          have na : Blk wa N 57 [.int .u64 (v0 : Int), .int .u64 (v1 : Int), .int .u64 (v2 : Int), .int .u64 (v3 : Int), .int .u64 (v4 : Int), .int .u64 (v5 : Int), .int .u64 (v6 : Int), .int .u64 (v7 : Int)] := by rw [hwa]; exact kt.alloc _
          have fa : Blk wa wr.heap.size 59 [.int .i64 22, .int .i64 2] := by rw [hwa]; exact Blk.new wr _ _
          obtain ⟨F, hF⟩ : ∃ F, F = wr.heap.size := ⟨_, rfl⟩
          rw [← hF] at fa ⊢
          clear hwa hF kn kt bq hi
          have c0 : wa.cell? ⟨F, 0, none⟩ = some (.int .i64 22) := fa.cell 0
          have c1 : wa.cell? ⟨F, 1, none⟩ = some (.int .i64 2) := fa.cell 1
          have c2 : wa.cell? ⟨N, k, none⟩ = some (.int .u64 (v6 : Int)) := by rw [HK.out]; exact na.cell 6
          have hput := put_any g 0 26 26 (pkS v0 v1 v2 v3 v4 v5 v6 v7 6) [] [] 22 2 v6 wa.drew (pkS_len v0 v1 v2 v3 v4 v5 v6 v7 6) rfl (by simpa using ka.drew) (by decide) (by have := HVB.out; omega) (by decide) (by decide)
          by_cases hv : v6 < 65536
          · rw [show putR (pkS v0 v1 v2 v3 v4 v5 v6 v7 6) 22 2 v6 = (pkS v0 v1 v2 v3 v4 v5 v6 v7 7, 0) from putR_zero (leb v0 1 ++ leb v1 1 ++ leb v2 6 ++ leb v3 6 ++ leb v4 4 ++ leb v5 4) 4 2 v6 22 2 (by simp [leb_len]) rfl (by decide) (by decide) (by decide) (by rw [show (256 : Nat) ^ 2 = 65536 from by decide]; omega)] at hput
            refine wp_region_still_tail 8 (by kernel_rfl) (by kernel_rfl) ?_
            simp only [List.take_succ_cons, List.take_zero, List.drop_succ_cons, List.drop_zero]
            repeat still_step
            refine wpStill_nil ?_
            change wpList _ _ _ _ _ wa.drew
            go_wp2_with fail
            with_reducible refine hput.mono ?_
            rintro e w5 ⟨rfl, kb5, hf5⟩
            have ks : Blk w5 g 5 (u8s (pkS v0 v1 v2 v3 v4 v5 v6 v7 (k + 1))) := by rw [HK.out]; simpa using kb5
            have ns := (na.drew).frm hf5 (show N ≠ g by omega)
            have bs := below_frm (bel_drew ba) ba.size hf5 (fun q hq => by rw [hq]; omega)
            have hfk : FitK v0 v1 v2 v3 v4 v5 v6 v7 (k + 1) := by have h1 := HF.out; have h2 := HK.out; unfold FitK at h1 ⊢; omega
            have HFK := Lib.hid hfk
            clear c0 c1 c2 hput kb5 hf5 ka na fa ba hfk
            go_wp2
            go_roundw
            case rel => exact ⟨k + 1, by omega, by go_num, HFK.out, ks, ns, bs⟩
            case measure => simp [intI]; omega
          · rw [putR_bad (pkS v0 v1 v2 v3 v4 v5 v6 v7 6) 2 v6 22 2 rfl (by rw [show (256 : Nat) ^ 2 = 65536 from by decide]; omega)] at hput
            refine wp_region_still_tail 8 (by kernel_rfl) (by kernel_rfl) ?_
            simp only [List.take_succ_cons, List.take_zero, List.drop_succ_cons, List.drop_zero]
            repeat still_step
            refine wpStill_nil ?_
            change wpList _ _ _ _ _ wa.drew
            go_wp2_with fail
            with_reducible refine hput.mono ?_
            rintro e w5 ⟨rfl, kb5, hf5⟩
            have bs := below_frm (bel_drew ba) ba.size hf5 (fun q hq => by rw [hq]; omega)
            clear c0 c1 c2 hput kb5 hf5 ka na fa ba
            go_wp2
            go_ret2
            exact .inr ⟨by have h1 := HX.out; unfold FitI; omega, rfl, bs⟩
        · have hi : ∀ wx : World, (Instr.index 60 (.agg #[.int .i64 0, .int .i64 1, .int .i64 1, .int .i64 1, .int .i64 2, .int .i64 6, .int .i64 8, .int .i64 6, .int .i64 14, .int .i64 4, .int .i64 18, .int .i64 4, .int .i64 22, .int .i64 2, .int .i64 24, .int .i64 2]) (.int .i64 (k : Int))).run Tryd.prog wx = .ok (.agg #[.int .i64 24, .int .i64 2]) wx := fun wx => by rw [e]; kernel_rfl
          have HK := Lib.hid e
          clear e
          go_upto_region 8 with fail
          obtain ⟨wa, hwa⟩ : ∃ x, x = wr.alloc (.cells #[.int .i64 24, .int .i64 2] 59) := ⟨_, rfl⟩
          rw [← hwa]
          have ba : Below w.heap.size w wa := by rw [hwa]; exact bq.alloc bq.size _
          have ka : Blk wa g 5 (u8s (pkS v0 v1 v2 v3 v4 v5 v6 v7 7)) := by rw [hwa]; rw [HK.out] at kn; exact kn.alloc _
          have na : Blk wa N 57 [.int .u64 (v0 : Int), .int .u64 (v1 : Int), .int .u64 (v2 : Int), .int .u64 (v3 : Int), .int .u64 (v4 : Int), .int .u64 (v5 : Int), .int .u64 (v6 : Int), .int .u64 (v7 : Int)] := by rw [hwa]; exact kt.alloc _
          have fa : Blk wa wr.heap.size 59 [.int .i64 24, .int .i64 2] := by rw [hwa]; exact Blk.new wr _ _
          obtain ⟨F, hF⟩ : ∃ F, F = wr.heap.size := ⟨_, rfl⟩
          rw [← hF] at fa ⊢
          clear hwa hF kn kt bq hi
          have c0 : wa.cell? ⟨F, 0, none⟩ = some (.int .i64 24) := fa.cell 0
          have c1 : wa.cell? ⟨F, 1, none⟩ = some (.int .i64 2) := fa.cell 1
          have c2 : wa.cell? ⟨N, k, none⟩ = some (.int .u64 (v7 : Int)) := by rw [HK.out]; exact na.cell 7
          have hput := put_any g 0 26 26 (pkS v0 v1 v2 v3 v4 v5 v6 v7 7) [] [] 24 2 v7 wa.drew (pkS_len v0 v1 v2 v3 v4 v5 v6 v7 7) rfl (by simpa using ka.drew) (by decide) (by have := HVB.out; omega) (by decide) (by decide)
          by_cases hv : v7 < 65536
          · rw [show putR (pkS v0 v1 v2 v3 v4 v5 v6 v7 7) 24 2 v7 = (pkS v0 v1 v2 v3 v4 v5 v6 v7 8, 0) from putR_zero (leb v0 1 ++ leb v1 1 ++ leb v2 6 ++ leb v3 6 ++ leb v4 4 ++ leb v5 4 ++ leb v6 2) 2 2 v7 24 2 (by simp [leb_len]) rfl (by decide) (by decide) (by decide) (by rw [show (256 : Nat) ^ 2 = 65536 from by decide]; omega)] at hput
            refine wp_region_still_tail 8 (by kernel_rfl) (by kernel_rfl) ?_
            simp only [List.take_succ_cons, List.take_zero, List.drop_succ_cons, List.drop_zero]
            repeat still_step
            refine wpStill_nil ?_
            change wpList _ _ _ _ _ wa.drew
            go_wp2_with fail
            with_reducible refine hput.mono ?_
            rintro e w5 ⟨rfl, kb5, hf5⟩
            have ks : Blk w5 g 5 (u8s (pkS v0 v1 v2 v3 v4 v5 v6 v7 (k + 1))) := by rw [HK.out]; simpa using kb5
            have ns := (na.drew).frm hf5 (show N ≠ g by omega)
            have bs := below_frm (bel_drew ba) ba.size hf5 (fun q hq => by rw [hq]; omega)
            have hfk : FitK v0 v1 v2 v3 v4 v5 v6 v7 (k + 1) := by have h1 := HF.out; have h2 := HK.out; unfold FitK at h1 ⊢; omega
            have HFK := Lib.hid hfk
            clear c0 c1 c2 hput kb5 hf5 ka na fa ba hfk
            go_wp2
            go_roundw
            case rel => exact ⟨k + 1, by omega, by go_num, HFK.out, ks, ns, bs⟩
            case measure => simp [intI]; omega
          · rw [putR_bad (pkS v0 v1 v2 v3 v4 v5 v6 v7 7) 2 v7 24 2 rfl (by rw [show (256 : Nat) ^ 2 = 65536 from by decide]; omega)] at hput
            refine wp_region_still_tail 8 (by kernel_rfl) (by kernel_rfl) ?_
            simp only [List.take_succ_cons, List.take_zero, List.drop_succ_cons, List.drop_zero]
            repeat still_step
            refine wpStill_nil ?_
            change wpList _ _ _ _ _ wa.drew
            go_wp2_with fail
            with_reducible refine hput.mono ?_
            rintro e w5 ⟨rfl, kb5, hf5⟩
            have bs := below_frm (bel_drew ba) ba.size hf5 (fun q hq => by rw [hq]; omega)
            clear c0 c1 c2 hput kb5 hf5 ka na fa ba
            go_wp2
            go_ret2
            exact .inr ⟨by have h1 := HX.out; unfold FitI; omega, rfl, bs⟩
      · obtain rfl : k = 8 := by omega
        go_wp2
        go_ret2
        rw [pkS_end] at kn
        exact .inl ⟨_, _, _, _, _, _, _, _, HX.out, by have h1 := HF.out; unfold FitK at h1; unfold FitV; omega, some ⟨g, 0, none⟩, 26, [], rfl, .inr ⟨g, 26, rfl, by simpa using kn, by rw [u8s_length, packB_len], by rw [u8s_length, packB_len]; decide, Nat.le_refl _, by unfold maxLen; decide⟩, (fun q hq => by have h1 : g = q := Option.some.inj hq; omega), bq⟩
  · have hx : ¬ FitI x0 x1 x2 x3 x4 x5 x6 x7 := by unfold FitI; unfold Pos6 at hneg; omega
    clear hneg h0 h1 h2 h3 h4 h5 h6 h7
    have b9 := hB.alloc hB.size (.cells #[.int .u64 y0, .int .u64 y1, .int .u64 y2, .int .u64 y3, .int .u64 y4, .int .u64 y5, .int .u64 y6, .int .u64 y7] 57)
    go_wp2
    go_ret2
    exact .inr ⟨hx, rfl, b9⟩
end Go.Proofs.YtekbjcagjkcaiaaDoor
