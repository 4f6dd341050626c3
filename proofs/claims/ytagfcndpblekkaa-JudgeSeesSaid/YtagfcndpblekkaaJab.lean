/- The walk of the document's Check. -/
import Derived.Test.YtagfcndpblekkaaJaa
namespace Go.Proofs.Ytagfcndpblekkaa
open Go.RowKit Go.Maps
set_option linter.unusedVariables false
set_option linter.unusedSimpArgs false
set_option maxRecDepth 100000 in
set_option maxHeartbeats 6400000 in
theorem rCheck_no (b p s : Int) (A : Option Addr) (n c : Nat) (clean : Bool) (A2 : Option Addr) (n2 c2 : Nat) (w : World) (h0 : newE b p s n ≠ 0) (hN : ∀ wx, Calls Try.prog 23 #[.agg #[.int .i64 b, .int .i64 p, .int .i64 s], .slice A n c] wx fun e w' => e = .returned (.int .i64 (newE b p s n)) ∧ Below wx.heap.size wx w') :
    Calls Try.prog 17 #[.agg #[.int .i64 b, .int .i64 p, .int .i64 s], .slice A n c, .bool clean, .slice A2 n2 c2] w fun e w' => e = .returned (.tuple #[.int .i64 0, .int .i64 (newE b p s n)]) ∧ Below w.heap.size w w' := by
  obtain ⟨w1, hw1⟩ : ∃ x, x = w.alloc (.cells #[.int .i64 b, .int .i64 p, .int .i64 s] 23) := ⟨_, rfl⟩
  have b1 : Below w.heap.size w w1 := by rw [hw1]; exact (Below.refl _ w).alloc (Nat.le_refl _) _
  have kg : Blk w1 w.heap.size 23 [.int .i64 b, .int .i64 p, .int .i64 s] := by rw [hw1]; exact Blk.new w _ [.int .i64 b, .int .i64 p, .int .i64 s]
  obtain ⟨G, hG⟩ : ∃ G, G = w.heap.size := ⟨_, rfl⟩
  rw [← hG] at kg
  have k0 : w1.cell? ⟨G, 0, none⟩ = some (.int .i64 b) := kg.cell 0
  have k1 : w1.cell? ⟨G, 1, none⟩ = some (.int .i64 p) := kg.cell 1
  have k2 : w1.cell? ⟨G, 2, none⟩ = some (.int .i64 s) := kg.cell 2
  have hN1 := hN w1
  have he : (newE b p s n == 0) = false := by simpa using h0
  have he2 : (newE b p s n != 0) = true := by simpa using h0
  generalize newE b p s n = er at *
  clear hN kg
  go_enter Try.func17, Try.ntmps17
  go_wp2_with fail
  rw [← hw1, ← hG]
  clear hw1 hG
  with_reducible refine hN1.mono ?_
  rintro e w2 ⟨rfl, b2⟩
  have bb := b1.trans (b2.mono b1.size)
  clear hN1 b2 b1 k0 k1 k2
  go_wp2
  go_ret2
  exact ⟨rfl, bb⟩
set_option maxRecDepth 100000 in
set_option maxHeartbeats 6400000 in
theorem rCheck_ok (b p s : Int) (A : Option Addr) (n c : Nat) (m : List Bool) (clean : Bool) (A2 : Option Addr) (n2 c2 : Nat) (l : List Cmd) (w : World) (hml : m.length = n) (hr : Rd w A (bls m)) (hll : l.length = n2) (hr2 : Rd w A2 (cmdV l)) (hI : CmdsI l) (hm2 : n2 ≤ 4398046511104) (h0 : newE b p s n = 0) (hN : ∀ wx, Calls Try.prog 23 #[.agg #[.int .i64 b, .int .i64 p, .int .i64 s], .slice A n c] wx fun e w' => e = .returned (.int .i64 (newE b p s n)) ∧ Below wx.heap.size wx w') :
    Calls Try.prog 17 #[.agg #[.int .i64 b, .int .i64 p, .int .i64 s], .slice A n c, .bool clean, .slice A2 n2 c2] w fun e w' => e = .returned (.tuple #[.int .i64 (ckR b p m clean l), .int .i64 0]) ∧ Below w.heap.size w w' := by
  have hz := newE_zero h0
  obtain ⟨hz1, hnb⟩ := hz
  obtain ⟨w1, hw1⟩ : ∃ x, x = w.alloc (.cells #[.int .i64 b, .int .i64 p, .int .i64 s] 23) := ⟨_, rfl⟩
  have b1 : Below w.heap.size w w1 := by rw [hw1]; exact (Below.refl _ w).alloc (Nat.le_refl _) _
  have kg : Blk w1 w.heap.size 23 [.int .i64 b, .int .i64 p, .int .i64 s] := by rw [hw1]; exact Blk.new w _ [.int .i64 b, .int .i64 p, .int .i64 s]
  obtain ⟨G, hG⟩ : ∃ G, G = w.heap.size := ⟨_, rfl⟩
  rw [← hG] at kg
  have k0 : w1.cell? ⟨G, 0, none⟩ = some (.int .i64 b) := kg.cell 0
  have k1 : w1.cell? ⟨G, 1, none⟩ = some (.int .i64 p) := kg.cell 1
  have k2 : w1.cell? ⟨G, 2, none⟩ = some (.int .i64 s) := kg.cell 2
  have hN1 := hN w1
  rw [h0] at hN1
  have HLL := Lib.hid hll
  have HI := Lib.hid hI
  have HNB := Lib.hid hnb
  have hp0 : 0 ≤ p := by omega
  have hp6 : p ≤ 256 := by omega
  have hn4 : n ≤ 4096 := by omega
  obtain ⟨f, hf⟩ : ∃ f, f = ckF b p m clean l := ⟨_, rfl⟩
  have hfk : ∀ k, f k = kpR b p m clean (l.take k) (l.getD k ⟨0, 0, 0, 0⟩) := fun k => by rw [hf]; rfl
  have hck : ckR b p m clean l = fstN f n2 0 := by unfold ckR; rw [hll, hf]
  rw [hck]
  have HFK := Lib.hid hfk
  have HML := Lib.hid hml
  clear hf hck hfk hz1 h0 hml hnb hll hI hN
  obtain ⟨R, hR⟩ : ∃ R, R = fstN f n2 0 := ⟨_, rfl⟩
  rw [← hR]
  have HRR := Lib.hid hR
  clear hR
  go_enter Try.func17, Try.ntmps17
  go_wp2_with fail
  rw [← hw1, ← hG]
  clear hw1 hG
  with_reducible refine hN1.mono ?_
  rintro e w2 ⟨rfl, b2⟩
  replace kg := kg.bel b2
  replace b2 := b1.trans (b2.mono b1.size)
  clear hN1 b1 k0 k1 k2
  have k0 : w2.cell? ⟨G, 0, none⟩ = some (.int .i64 b) := kg.cell 0
  have k1 : w2.cell? ⟨G, 1, none⟩ = some (.int .i64 p) := kg.cell 1
  have k2 : w2.cell? ⟨G, 2, none⟩ = some (.int .i64 s) := kg.cell 2
  go_upto_region 5 with fail
  obtain ⟨w3, hw3⟩ : ∃ x, x = w2.alloc (.cells #[.int .i64 b, .int .i64 p, .int .i64 s, .slice A n c, .bool clean, .slice none 0 0] 79) := ⟨_, rfl⟩
  have b3 : Below w2.heap.size w2 w3 := by rw [hw3]; exact (Below.refl _ _).alloc (Nat.le_refl _) _
  have kj : Blk w3 w2.heap.size 79 (rfV b p s A n c clean none 0 0) := by rw [hw3]; exact Blk.new w2 _ (rfV b p s A n c clean none 0 0)
  rw [← hw3]
  have bb := b2.trans (b3.mono b2.size)
  have hq : RJ w3 w2.heap.size b p s A n c clean (.slice none 0 0) [] := ⟨none, 0, [], rfl, kj, .inl ⟨rfl, rfl, rfl, rfl⟩, (by intro h; cases h), (fun k hk => by cases hk)⟩
  have hqs := b2.size
  generalize w2.heap.size = q at *
  clear hw3 b3 kj k0 k1 k2 kg b2
  have r3 := hr2.below bb
  have m3 := hr.below bb
  go_wp2
  go_loopw [12] (fun ii wr => ∃ (k : Nat) (v : Value), k ≤ n2 ∧ ii = .int .i64 k ∧ RJ wr q b p s A n c clean v (l.take k) ∧ (∀ g, v.ownBlock = some g → w.heap.size ≤ g) ∧ Below w.heap.size w wr ∧ ∀ j, 0 ≤ j → j < k → f j = true) (fun ii _ => n2 - (intJ ii))
  case atStart => exact ⟨0, _, by omega, rfl, hq, (fun g hg => by cases hg), bb, fun j _ h => by omega⟩
  case round =>
    clear hq bb
    obtain ⟨k, v, hk, rfl, hJ, hv, bb, hall⟩ := hrel
    by_cases hlt : k < n2
    · have hlti : (k : Int) < (n2 : Int) := by omega
      obtain ⟨ad, rfl, d0, d1, d2, d3⟩ := rd_cmd (hr2.below bb) k (by have := HLL.out; omega)
      have hci := HI.out k (by have := HLL.out; omega)
      have hfk := HFK.out k
      have htk := take_snoc l k (by have := HLL.out; omega)
      have HTK := Lib.hid htk
      have HALL := Lib.hid hall
      have hlk : (l.take k).length < 4398046511104 := by rw [List.length_take]; omega
      have hS := fun wx hx hb => rSee_any q b p s A n c clean v m (l.take k) (l.getD k ⟨0, 0, 0, 0⟩) wx hx hp0 hp6 hlk (hr.below hb) HML.out HNB.out hci
      rw [← hfk] at hS
      unfold nextS at hS
      rw [← hfk, ← htk] at hS
      have HS := Lib.hid hS
      have HV := Lib.hid hv
      clear hS hfk htk hall hci hv
      generalize l.getD k ⟨0, 0, 0, 0⟩ = cc at *
      obtain ⟨ck, cb, cp, cs⟩ := cc
      simp only at d0 d1 d2 d3
      go_wp2_with fail

      with_reducible refine (HS.out _ hJ bb).mono ?_
      rintro e w4 ⟨rfl, v4, hJ4, hf4, ho4⟩
      have hv4 : ∀ g, v4.ownBlock = some g → w.heap.size ≤ g := fun g hg => by
        rcases ho4 with h | h
        · exact HV.out g (h ▸ hg)
        · have := h g hg; have := bb.size; omega
      have bb4 : Below w.heap.size w w4 := below_frm bb bb.size hf4 (fun k hk => by
        rcases hk with h | h
        · omega
        · exact HV.out k h)
      have HV4 := Lib.hid hv4
      clear hJ hf4 ho4 HS hv4
      cases hfv : f k with
      | true =>
        rw [hfv, if_pos rfl] at hJ4
        have HFV := Lib.hid hfv
        clear hfv
        go_wp2
        go_roundw
        case rel => exact ⟨k + 1, v4, by omega, by go_num, hJ4, HV4.out, bb4, fun j h1 h2 => by
          by_cases e : j = k
          · rw [e]; exact HFV.out
          · exact HALL.out j h1 (by omega)⟩
        case measure => simp [intJ]; omega
      | false =>
        have hR := HRR.out.trans (fst_at f n2 0 k (by omega) (by omega) HALL.out hfv)
        subst hR
        clear hfv hJ4
        go_wp2
        go_ret2
        exact ⟨rfl, bb4⟩
    · obtain rfl : k = n2 := by omega
      have hR := HRR.out.trans (fst_all f k 0 (fun j h1 h2 => hall j h1 (by omega)))
      subst hR
      go_wp2
      go_ret2
      exact ⟨rfl, bb⟩
end Go.Proofs.Ytagfcndpblekkaa
