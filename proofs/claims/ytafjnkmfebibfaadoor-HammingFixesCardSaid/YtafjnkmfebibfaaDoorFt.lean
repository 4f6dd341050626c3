/- Walks of the laws' helpers: whole, bit, Turned, turned. -/
import Derived.Test.YtafjnkmfebibfaaDoorFx
namespace Go.Proofs.YtafjnkmfebibfaaDoor
open Go.RowKit
set_option linter.unusedVariables false
set_option linter.unusedSimpArgs false
set_option maxRecDepth 100000 in
set_option maxHeartbeats 1600000 in
theorem whole_any (A : Option Addr) (n cap : Nat) (l : List UInt8) (w : World) (hl : l.length = n) (hr : Rd w A (u8s l)) (hm : n ≤ 140737488351232) :
    Calls Tryd.prog 13 #[.slice A n cap] w fun e w' => ∃ v lw sp, e = .returned v ∧ lw.length = 256 ∧ Own w' 5 1 v 256 (u8s lw) sp ∧ (∀ q, v.ownBlock = some q → w.heap.size ≤ q) ∧ Below w.heap.size w w' := by
  have HL := Lib.hid hl
  clear hl
  obtain ⟨B, hB⟩ : ∃ B, B = w.heap.size := ⟨_, rfl⟩
  rw [← hB]
  have HB := Lib.hid hB
  have hr0 := hr
  go_enter Tryd.func13, Tryd.ntmps13
  go_wp2
  have hbl0 : Below B w w := Below.refl _ _
  clear hB
  go_loopw [3, 4] (fun v i wr => ∃ k : Nat, k ≤ 256 ∧ i = .int .i64 k ∧ (∃ lw sp, List.length lw = k ∧ Own wr 5 1 v k (u8s lw) sp) ∧ (∀ q, v.ownBlock = some q → B ≤ q) ∧ Below B w wr) (fun _ i _ => 256 - (intI i))
  case atStart => exact ⟨0, by omega, rfl, ⟨[], [], rfl, .inl ⟨rfl, rfl, rfl, rfl⟩⟩, (fun q hq => by cases hq), hbl0⟩
  case round =>
    obtain ⟨k, hk, rfl, ⟨lw, sp, hlw, ho⟩, hfr, hbl⟩ := hrel
    have HW := Lib.hid hlw
    clear hlw
    by_cases hlt : k < 256
    · have hsz : B ≤ wr.heap.size := by have := HB.out; rw [this] at hbl ⊢; exact hbl.size
      by_cases hn0 : 0 < n
      · obtain ⟨j, hj⟩ : ∃ j, j = k % n := ⟨_, rfl⟩
        have hmod : j < n := by rw [hj]; exact Nat.mod_lt _ hn0
        have hx : (k : Int) % (n : Int) = (j : Int) := by rw [hj]; rfl
        clear hj
        obtain ⟨ad, rfl, hc⟩ := hr.at_ (k := j) (u8s_bt l j (by have := HL.out; omega))
        have hc2 : wr.cell? (ad.add j) = some (.int .u8 ((bt l j).toNat : Int)) := by
          rw [HB.out] at hbl
          rw [hbl.cell (World.block_lt_of_cell? w _ hc)]; exact hc
        go_wp2_with (at_builtin; refine wpList_app _ rfl (.tmp 20) (.tmp 22) 22 rfl 5 _ 1 1 Tryd.underlying22 info5 rfl (by decide) rfl (ho.alloc _) rfl rfl (rd_one _ _ _) (one_int _ _) (by unfold maxLen; omega) (by omega) ?_; intro v1 w3 sp3 ho3 hy3)
        have f1 := fresh_app (B := B) (by simp; omega) hfr hy3.at_
        have b1 : Below B w w3 := below_frm (hbl.alloc hsz _) (by simp; omega) hy3.frm (fun q hq => hfr q hq)
        refine ⟨⟨k + 1, hlt, rfl, ⟨lw ++ [bt l j], sp3, by rw [List.length_append, HW.out]; rfl, by rw [u8s_append]; exact ho3⟩, f1, b1⟩, by simp [intI]; omega⟩
      · have hn1 : n = 0 := by omega
        have hnz : ((n : Nat) : Int) = 0 := by omega
        clear hn0 hn1
        go_wp2_with (at_builtin; refine wpList_app _ rfl (.tmp 20) (.tmp 22) 22 rfl 5 _ 1 1 Tryd.underlying22 info5 rfl (by decide) rfl (ho.alloc _) rfl rfl (rd_one _ _ _) (one_int _ _) (by unfold maxLen; omega) (by omega) ?_; intro v1 w3 sp3 ho3 hy3)
        have f1 := fresh_app (B := B) (by simp; omega) hfr hy3.at_
        have b1 : Below B w w3 := below_frm (hbl.alloc hsz _) (by simp; omega) hy3.frm (fun q hq => hfr q hq)
        refine ⟨⟨k + 1, hlt, rfl, ⟨lw ++ [0], sp3, by rw [List.length_append, HW.out]; rfl, by rw [u8s_append]; exact ho3⟩, f1, b1⟩, by simp [intI]; omega⟩
    · obtain rfl : k = 256 := by omega
      go_wp2
      go_ret
      exact ⟨_, lw, sp, rfl, HW.out, ho, hfr, hbl⟩
set_option maxHeartbeats 800000 in
theorem bit_any (x : Int) (h1 : -9223372036854775808 ≤ x) (h2 : x ≤ 9223372036854775807) (w : World) :
    Calls Tryd.prog 15 #[.int .i64 x, .int .i64 2072] w fun e w' => ∃ m : Nat, m < 2072 ∧ e = .returned (.int .i64 (m : Int)) ∧ w = w' := by
  by_cases h0 : 0 ≤ x
  · obtain ⟨a, rfl⟩ : ∃ a : Nat, x = a := ⟨x.toNat, by omega⟩
    go_enter Tryd.func15, Tryd.ntmps15
    go_wp2
    go_ret
    exact ⟨a % 2072, Nat.mod_lt _ (by decide), rfl, rfl⟩
  · obtain ⟨a, rfl⟩ : ∃ a : Nat, x = -(a : Int) := ⟨(-x).toNat, by omega⟩
    go_enter Tryd.func15, Tryd.ntmps15
    go_wp2
    · go_ret
      refine ⟨(-((a : Int) % 2072) + 2072).toNat, by omega, ?_, rfl⟩
      rw [Int.toNat_of_nonneg (by omega)]
      rfl
    · go_ret
      refine ⟨0, by decide, ?_, rfl⟩
      show Ending.returned (Value.int IntKind.i64 (-((a : Int) % 2072))) = _
      rw [show -((a : Int) % 2072) = ((0 : Nat) : Int) by omega]
set_option maxRecDepth 100000 in
set_option maxHeartbeats 1600000 in
theorem Turned_any (A : Option Addr) (n cap : Nat) (l : List UInt8) (m : Nat) (w : World) (hl : l.length = n) (hr : Rd w A (u8s l)) (hm : m < 8 * n) (hn : n ≤ 1000000) :
    Calls Tryd.prog 23 #[.slice A n cap, .int .i64 (m : Int)] w fun e w' => ∃ v sp, e = .returned v ∧ Own w' 5 1 v n (u8s (flipB l m)) sp ∧ (∀ q, v.ownBlock = some q → w.heap.size ≤ q) ∧ Below w.heap.size w w' := by
  have HL := Lib.hid hl
  clear hl
  obtain ⟨B, hB⟩ : ∃ B, B = w.heap.size := ⟨_, rfl⟩
  rw [← hB]
  have HB := Lib.hid hB
  go_enter Tryd.func23, Tryd.ntmps23
  go_wp2
  have hbl0 : Below B w w := Below.refl _ _
  clear hB
  go_loopw [5, 6] (fun v i wr => ∃ k : Nat, k ≤ n ∧ i = .int .i64 k ∧ (∃ sp, Own wr 5 1 v k (u8s (l.take k)) sp) ∧ (∀ q, v.ownBlock = some q → B ≤ q) ∧ Below B w wr) (fun _ i _ => n - (intI i))
  case atStart => exact ⟨0, by omega, rfl, ⟨[], .inl ⟨rfl, rfl, by simp [u8s], rfl⟩⟩, (fun q hq => by cases hq), hbl0⟩
  case round =>
    obtain ⟨k, hk, rfl, ⟨sp, ho⟩, hfr, hbl⟩ := hrel
    by_cases hlt : k < n
    · have hsz : B ≤ wr.heap.size := by have := HB.out; rw [this] at hbl ⊢; exact hbl.size
      obtain ⟨ad, rfl, hc⟩ := hr.at_ (k := k) (u8s_bt l k (by have := HL.out; omega))
      have hc2 : wr.cell? (ad.add k) = some (.int .u8 ((bt l k).toNat : Int)) := by
        rw [HB.out] at hbl
        rw [hbl.cell (World.block_lt_of_cell? w _ hc)]; exact hc
      go_wp2_with (at_builtin; refine wpList_app _ rfl (.tmp 13) (.tmp 18) 22 rfl 5 _ 1 1 Tryd.underlying22 info5 rfl (by decide) rfl (ho.alloc _) rfl rfl (rd_one _ _ _) (one_int _ _) (by unfold maxLen; omega) (by omega) ?_; intro v1 w3 sp3 ho3 hy3)
      have f1 := fresh_app (B := B) (by simp; omega) hfr hy3.at_
      have b1 : Below B w w3 := below_frm (hbl.alloc hsz _) (by simp; omega) hy3.frm (fun q hq => hfr q hq)
      refine ⟨⟨k + 1, hlt, rfl, ⟨sp3, ?_⟩, f1, b1⟩, by simp [intI]; omega⟩
      rw [List.take_add_one, bt_get l k (by have := HL.out; omega), u8s_append]
      exact ho3
    · obtain rfl : k = n := by omega
      rw [List.take_of_length_le (by have := HL.out; omega)] at ho
      obtain ⟨g1, cp1, rfl, hb1, hl1, hc1, hn1, hm1⟩ := ho.blk (by omega)
      have hg1 : B ≤ g1 := hfr g1 rfl
      have hk8 : m / 8 < l.length := by have := HL.out; omega
      have hcell : wr.cell? ⟨g1, m / 8, none⟩ = some (.int .u8 ((bt l (m / 8)).toNat : Int)) := by
        rw [hb1.cell, List.getElem?_append_left (by rw [u8s_length]; exact hk8), u8s_bt l _ hk8]
      have hfz := hb1.frozen (m / 8)
      have hxb := xor_bit (bt l (m / 8)) (m % 8) (by omega)
      have hlt8 : m / 8 < k := by omega
      have hbt8 := (bt l (m / 8)).toNat_lt
      go_wp2
      have hfl : (flipB l m).length = l.length := flipB_len l m
      have hb2 := hb1.set_ (m / 8) (.int .u8 ((flipBit (bt l (m / 8)) (m % 8)).toNat : Int))
      rw [List.set_append_left _ _ (by rw [u8s_length]; exact hk8)] at hb2
      have hB2 := below_frm hbl (by have := HB.out; rw [this] at hbl ⊢; exact hbl.size) ((Frm.refl (fun q => q = g1) wr).setCell (p := ⟨g1, m / 8, none⟩) (fun _ => rfl) (.int .u8 ((flipBit (bt l (m / 8)) (m % 8)).toNat : Int))) (fun q hq => by rw [hq]; exact hg1)
      go_ret
      refine ⟨_, sp, rfl, .inr ⟨g1, cp1, rfl, ?_, by rw [u8s_length, hfl, HL.out]; omega, by rw [u8s_length, hfl, ← u8s_length]; exact hc1, hn1, hm1⟩, (fun q hq => by have e : g1 = q := Option.some.inj hq; omega), hB2⟩
      rw [show u8s (flipB l m) = (u8s l).set (m / 8) (.int .u8 ((flipBit (bt l (m / 8)) (m % 8)).toNat : Int)) from (u8s_set l (m / 8) (flipBit (bt l (m / 8)) (m % 8))).symm]
      exact hb2
end Go.Proofs.YtafjnkmfebibfaaDoor
