/- The walk of judge.Check. -/
import Derived.Test.YtagfcndpblekkaaJw
namespace Go.Proofs.Ytagfcndpblekkaa
open Go.RowKit Go.Maps
set_option linter.unusedVariables false
set_option linter.unusedSimpArgs false
theorem take_snoc (l : List Cmd) (k : Nat) (h : k < l.length) : l.take (k + 1) = l.take k ++ [l.getD k ⟨0, 0, 0, 0⟩] := by
  rw [List.take_add_one, List.getElem?_eq_getElem h, List.getD_eq_getElem?_getD, List.getElem?_eq_getElem h]
  rfl
def CmdsI (l : List Cmd) : Prop := ∀ k, k < l.length → CmdI (l.getD k ⟨0, 0, 0, 0⟩)
set_option maxRecDepth 100000 in
set_option maxHeartbeats 6400000 in
theorem Check_ok (b p s : Int) (A : Option Addr) (n c : Nat) (m : List Bool) (clean : Bool) (A2 : Option Addr) (n2 c2 : Nat) (l : List Cmd) (w : World) (hml : m.length = n) (hr : Rd w A (bls m)) (hll : l.length = n2) (hr2 : Rd w A2 (cmdV l)) (hI : CmdsI l) (hm2 : n2 ≤ 35184372088832) (h0 : newE b p s n = 0) :
    Calls Try.prog 20 #[.agg #[.int .i64 b, .int .i64 p, .int .i64 s], .slice A n c, .bool clean, .slice A2 n2 c2] w fun e w' => e = .returned (.tuple #[.int .i64 (ckR b p m clean l), .int .i64 0]) ∧ Below w.heap.size w w' := by
  have hz := newE_zero h0
  obtain ⟨hz1, hnb⟩ := hz
  obtain ⟨w1, hw1⟩ : ∃ x, x = w.alloc (.cells #[.int .i64 b, .int .i64 p, .int .i64 s] 23) := ⟨_, rfl⟩
  have b1 : Below w.heap.size w w1 := by rw [hw1]; exact (Below.refl _ w).alloc (Nat.le_refl _) _
  have hN := New_jq b p s A n c m clean w1 hml (hr.below b1) h0
  have HLL := Lib.hid hll
  have HI := Lib.hid hI
  have HNB := Lib.hid hnb
  have hp0 : 0 ≤ p := by omega
  have hp6 : p ≤ 256 := by omega
  have hn4 : n ≤ 4096 := by omega
  obtain ⟨f, hf⟩ : ∃ f, f = ckF b p m clean l := ⟨_, rfl⟩
  have hfk : ∀ k, f k = kpR (n : Int) p m clean (l.take k) (l.getD k ⟨0, 0, 0, 0⟩) := fun k => by rw [hf, hnb]; rfl
  have hck : ckR b p m clean l = fstN f n2 0 := by unfold ckR; rw [hll, hf]
  rw [hck]
  have HFK := Lib.hid hfk
  clear hf hck hfk hz1 h0 hml hnb hll hI
  obtain ⟨R, hR⟩ : ∃ R, R = fstN f n2 0 := ⟨_, rfl⟩
  rw [← hR]
  have HRR := Lib.hid hR
  clear hR
  obtain ⟨G, hG⟩ : ∃ G, G = w.heap.size := ⟨_, rfl⟩
  go_enter Try.func20, Try.ntmps20
  go_wp2_with fail
  rw [← hw1, ← hG]
  clear hw1
  with_reducible refine hN.mono ?_
  rintro e w2 ⟨a, rfl, hq, hown, b2⟩
  have hown0 : ∀ k, a.own k → w.heap.size ≤ k := fun k hk => Nat.le_trans b1.size (hown k hk)
  have r2 := hr2.below (b1.trans (b2.mono b1.size))
  have bb := b1.trans (b2.mono b1.size)
  clear hN b2 hown b1 hG
  go_wp2
  go_loopw [26] (fun ii wr => ∃ k : Nat, k ≤ n2 ∧ ii = .int .i64 k ∧ JQ wr a n p s m clean (l.take k) (n + k) ∧ Frm a.own w2 wr ∧ ∀ j, 0 ≤ j → j < k → f j = true) (fun ii _ => n2 - (intJ ii))
  case atStart => exact ⟨0, by omega, rfl, hq, Frm.refl _ _, fun j _ h => by omega⟩
  case round =>
    clear hq
    obtain ⟨k, hk, rfl, hJ, hf, hall⟩ := hrel
    by_cases hlt : k < n2
    · have hlti : (k : Int) < (n2 : Int) := by omega
      obtain ⟨ad, rfl, d0, d1, d2, d3⟩ := rd_cmd (r2.frm2 hr2 hf hown0) k (by have := HLL.out; omega)
      have hci := HI.out k (by have := HLL.out; omega)
      have hfk := HFK.out k
      have htk := take_snoc l k (by have := HLL.out; omega)
      have HTK := Lib.hid htk
      have HALL := Lib.hid hall
      have hlk : (l.take k).length ≤ 4611686018427387904 := by rw [List.length_take]; omega
      have hS := fun wx hx => See_any a n p s m clean (l.take k) (n + k) (l.getD k ⟨0, 0, 0, 0⟩) wx hx hci (by unfold maxLen; omega) hp0 hp6 hlk
      rw [← hfk] at hS
      unfold nextS at hS
      rw [← hfk, ← htk] at hS
      have HS := Lib.hid hS
      clear hS hfk htk hall hci
      generalize l.getD k ⟨0, 0, 0, 0⟩ = cc at *
      obtain ⟨ck, cb, cp, cs⟩ := cc
      simp only at d0 d1 d2 d3
      go_upto_region 7 with fail
      obtain ⟨w3, hw3⟩ : ∃ x, x = wr.alloc (.cells #[.int .i64 ck, .int .i64 cb, .int .i64 cp, .int .i64 cs] 33) := ⟨_, rfl⟩
      have b3 : Below wr.heap.size wr w3 := by rw [hw3]; exact (Below.refl _ _).alloc (Nat.le_refl _) _
      have kc : Blk w3 wr.heap.size 33 [.int .i64 ck, .int .i64 cb, .int .i64 cp, .int .i64 cs] := by rw [hw3]; exact Blk.new wr _ [.int .i64 ck, .int .i64 cb, .int .i64 cp, .int .i64 cs]
      rw [← hw3]
      obtain ⟨Z, hZ⟩ : ∃ Z, Z = wr.heap.size := ⟨_, rfl⟩
      rw [← hZ] at kc ⊢
      have hJ3 := hJ.bel b3
      have hf3 : Frm a.own w2 w3 := hf.trans (Frm.of_below b3)
      clear hw3 hZ b3 hJ hf d0 d1 d2 d3
      have k0 : w3.cell? ⟨Z, 0, none⟩ = some (.int .i64 ck) := kc.cell 0
      have k1 : w3.cell? ⟨Z, 1, none⟩ = some (.int .i64 cb) := kc.cell 1
      have k2 : w3.cell? ⟨Z, 2, none⟩ = some (.int .i64 cp) := kc.cell 2
      have k3 : w3.cell? ⟨Z, 3, none⟩ = some (.int .i64 cs) := kc.cell 3
      go_wp2_with fail
      with_reducible refine (HS.out _ hJ3).mono ?_
      rintro e w4 ⟨rfl, hJ4, hf4⟩
      have hf5 := hf3.trans hf4
      clear hJ3 hf3 hf4 HS k0 k1 k2 k3 kc
      cases hfv : f k with
      | true =>
        rw [hfv, if_pos rfl] at hJ4
        have HFV := Lib.hid hfv
        clear hfv
        go_wp2
        go_roundw
        case rel => exact ⟨k + 1, by omega, by go_num, hJ4, hf5, fun j h1 h2 => by
          by_cases e : j = k
          · rw [e]; exact HFV.out
          · exact HALL.out j h1 (by omega)⟩
        case measure => simp [intJ]; omega
      | false =>
        have hR := HRR.out.trans (fst_at f n2 0 k (by omega) (by omega) HALL.out hfv)
        subst hR
        clear hfv hJ4
        go_wp2
        go_ret2
        exact ⟨rfl, below_frm bb bb.size hf5 hown0⟩
    · obtain rfl : k = n2 := by omega
      have hR := HRR.out.trans (fst_all f k 0 (fun j h1 h2 => hall j h1 (by omega)))
      subst hR
      go_wp2
      go_ret2
      exact ⟨rfl, below_frm bb bb.size hf hown0⟩
end Go.Proofs.Ytagfcndpblekkaa
