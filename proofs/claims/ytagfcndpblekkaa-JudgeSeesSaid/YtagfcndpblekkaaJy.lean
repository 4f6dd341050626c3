/- Walks of the document's judge: marked, next. -/
import Derived.Test.YtagfcndpblekkaaJx
namespace Go.Proofs.Ytagfcndpblekkaa
open Go.RowKit Go.Maps
set_option linter.unusedVariables false
set_option linter.unusedSimpArgs false
set_option maxRecDepth 100000 in
set_option maxHeartbeats 6400000 in
theorem Check_no (b p s : Int) (A : Option Addr) (n c : Nat) (clean : Bool) (A2 : Option Addr) (n2 c2 : Nat) (w : World) (h0 : newE b p s n ≠ 0) :
    Calls Try.prog 20 #[.agg #[.int .i64 b, .int .i64 p, .int .i64 s], .slice A n c, .bool clean, .slice A2 n2 c2] w fun e w' => e = .returned (.tuple #[.int .i64 0, .int .i64 (newE b p s n)]) ∧ Below w.heap.size w w' := by
  obtain ⟨w1, hw1⟩ : ∃ x, x = w.alloc (.cells #[.int .i64 b, .int .i64 p, .int .i64 s] 23) := ⟨_, rfl⟩
  have b1 : Below w.heap.size w w1 := by rw [hw1]; exact (Below.refl _ w).alloc (Nat.le_refl _) _
  have hN := New_no b p s A n c clean w1 h0
  generalize newE b p s n = er at *
  go_enter Try.func20, Try.ntmps20
  go_wp2_with fail
  rw [← hw1]
  clear hw1
  with_reducible refine hN.mono ?_
  rintro e w2 ⟨rfl, b2⟩
  have bb := b1.trans (b2.mono b1.size)
  clear hN b2 b1
  go_wp2
  go_ret2
  exact ⟨rfl, bb⟩
/-- The document's judge in memory. -/
def rfV (b p s : Int) (A : Option Addr) (n c : Nat) (clean : Bool) (V : Option Addr) (N cN : Nat) : List Value := [.int .i64 b, .int .i64 p, .int .i64 s, .slice A n c, .bool clean, .slice V N cN]
theorem cellsR {wx : World} {q : Nat} {b p s : Int} {A : Option Addr} {n c : Nat} {clean : Bool} {V : Option Addr} {N cN : Nat} (h : Blk wx q 79 (rfV b p s A n c clean V N cN)) : wx.cell? ⟨q, 0, none⟩ = some (.int .i64 b) ∧ wx.cell? ⟨q, 1, none⟩ = some (.int .i64 p) ∧ wx.cell? ⟨q, 3, none⟩ = some (.slice A n c) ∧ wx.cell? ⟨q, 4, none⟩ = some (.bool clean) ∧ wx.cell? ⟨q, 5, none⟩ = some (.slice V N cN) :=
  ⟨by rw [h.cell]; rfl, by rw [h.cell]; rfl, by rw [h.cell]; rfl, by rw [h.cell]; rfl, by rw [h.cell]; rfl⟩
theorem any_take (l : List Cmd) (b : Int) : ∀ k, k ≤ l.length → (∀ j, j < k → mkS (l.getD j ⟨0, 0, 0, 0⟩) b = false) → (l.take k).any (fun c => mkS c b) = false
  | 0, _, _ => rfl
  | k + 1, h, hj => by
    rw [take_snoc l k (by omega), List.any_append, any_take l b k (by omega) (fun j g => hj j (by omega))]
    simp only [List.any_cons, List.any_nil, Bool.or_false, Bool.false_or]
    exact hj k (by omega)
theorem any_at (l : List Cmd) (b : Int) (k : Nat) (h : k < l.length) (hk : mkS (l.getD k ⟨0, 0, 0, 0⟩) b = true) : l.any (fun c => mkS c b) = true := by
  rw [List.any_eq_true]
  refine ⟨l.getD k ⟨0, 0, 0, 0⟩, ?_, hk⟩
  rw [List.getD_eq_getElem?_getD, List.getElem?_eq_getElem h]
  exact List.getElem_mem h
set_option maxRecDepth 100000 in
set_option maxHeartbeats 6400000 in
theorem marked_any (q : Nat) (b p s : Int) (A : Option Addr) (n c : Nat) (clean : Bool) (V : Option Addr) (N cN : Nat) (m : List Bool) (seen : List Cmd) (kb : Nat) (w : World) (hst : Blk w q 79 (rfV b p s A n c clean V N cN)) (hs : Rd w V (cmdV seen)) (hN : seen.length = N) (hm : Rd w A (bls m)) (hml : m.length = n) (hkb : kb < n) (hm2 : N ≤ 140737488355328) :
    Calls Try.prog 39 #[.pointer (some ⟨q, 0, none⟩), .int .i64 (kb : Int)] w fun e w' => e = .returned (.bool (mkR m seen (kb : Int))) ∧ w = w' := by
  obtain ⟨c0, c1, c3, c4, c5⟩ := cellsR hst
  obtain ⟨ad, rfl, hc⟩ := hm.at_ (k := kb) (bls_at m kb (by omega))
  have hki : (kb : Int) < (n : Int) := by omega
  have hmR : mkR m seen (kb : Int) = (m.getD kb false || seen.any (fun c => mkS c (kb : Int))) := by unfold mkR; rw [Int.toNat_natCast]
  rw [hmR]
  obtain ⟨mk, hmk⟩ : ∃ x, x = m.getD kb false := ⟨_, rfl⟩
  rw [← hmk] at hc ⊢
  have HN := Lib.hid hN
  clear hst hmR hmk hml hm hN
  cases mk with
  | true =>
    go_enter Try.func39, Try.ntmps39
    go_wp2
    go_ret
    exact ⟨by simp, rfl⟩
  | false =>
    rw [Bool.false_or]
    obtain ⟨R, hR⟩ : ∃ R, R = seen.any (fun c => mkS c (kb : Int)) := ⟨_, rfl⟩
    rw [← hR]
    have HR := Lib.hid hR
    clear hR
    go_enter Try.func39, Try.ntmps39
    go_wp2
    go_loopw [5] (fun ii wr => ∃ k : Nat, k ≤ N ∧ ii = .int .i64 k ∧ wr = w ∧ ∀ j, j < k → mkS (seen.getD j ⟨0, 0, 0, 0⟩) (kb : Int) = false) (fun ii _ => N - (intJ ii))
    case atStart => exact ⟨0, by omega, rfl, rfl, fun j h => by omega⟩
    case round =>
      obtain ⟨k, hk, rfl, rfl, hall⟩ := hrel
      have HALL := Lib.hid hall
      clear hall
      by_cases hlt : k < N
      · have hlti : (k : Int) < (N : Int) := by omega
        obtain ⟨ad2, rfl, d0, d1, d2, d3⟩ := rd_cmd hs k (by have := HN.out; omega)
        have hat := any_at seen (kb : Int) k (by have := HN.out; omega)
        have HAT := Lib.hid hat
        have hnx : mkS (seen.getD k ⟨0, 0, 0, 0⟩) (kb : Int) = false → ∀ j, j < k + 1 → mkS (seen.getD j ⟨0, 0, 0, 0⟩) (kb : Int) = false := fun hh j hj => by
          by_cases e : j = k
          · rw [e]; exact hh
          · exact HALL.out j (by omega)
        have HNX := Lib.hid hnx
        clear hat hnx
        generalize hcc : seen.getD k ⟨0, 0, 0, 0⟩ = cc at *
        have HCC := Lib.hid hcc
        clear hcc
        obtain ⟨ck, cb, cp, cs⟩ := cc
        simp only at d0 d1 d2 d3
        by_cases h1 : ck = 3
        · by_cases h2 : cb = (kb : Int)
          · by_cases h3 : cs = 0
            · have hy := HR.out.trans (HAT.out (decide_eq_true ⟨h1, h2, h3⟩))
              subst hy
              subst h1 h3
              clear HCC HAT HNX HALL HR
              have h2b : (cb == (kb : Int)) = true := by simpa using h2
              go_wp2
              go_ret
              exact ⟨rfl, rfl⟩
            · have hy := HNX.out (decide_eq_false (fun q => h3 q.2.2))
              have h3b : (cs == 0) = false := by simpa using h3
              have h2b : (cb == (kb : Int)) = true := by simpa using h2
              have HY := Lib.hid hy
              subst h1
              clear HCC HAT HNX HALL HR hy
              go_wp2
              go_roundw
              case rel => exact ⟨k + 1, by omega, by go_num, (by first | rfl | trivial), HY.out⟩
              case measure => simp [intJ]; omega
          · have hy := HNX.out (decide_eq_false (fun q => h2 q.2.1))
            have h2b : (cb == (kb : Int)) = false := by simpa using h2
            have HY := Lib.hid hy
            subst h1
            clear HCC HAT HNX HALL HR hy
            go_wp2
            go_roundw
            case rel => exact ⟨k + 1, by omega, by go_num, (by first | rfl | trivial), HY.out⟩
            case measure => simp [intJ]; omega
        · have hy := HNX.out (decide_eq_false (fun q => h1 q.1))
          have h1b : (ck == 3) = false := by simpa using h1
          have HY := Lib.hid hy
          clear HCC HAT HNX HALL HR hy
          go_wp2
          go_roundw
          case rel => exact ⟨k + 1, by omega, by go_num, (by first | rfl | trivial), HY.out⟩
          case measure => simp [intJ]; omega
      · obtain rfl : k = N := by omega
        have hy := HR.out.trans (show seen.any (fun c => mkS c (kb : Int)) = false by
          have := any_take seen (kb : Int) k (by rw [HN.out]; exact Nat.le_refl _) HALL.out
          rw [← HN.out, List.take_length] at this
          exact this)
        subst hy
        go_wp2
        go_ret
        exact ⟨rfl, rfl⟩
theorem nx_take (pg b : Int) (clean : Bool) (l : List Cmd) (k : Nat) (h : k < l.length) : nxR pg clean (l.take (k + 1)) b = nxS pg b (nxR pg clean (l.take k) b) (l.getD k ⟨0, 0, 0, 0⟩) := by
  rw [take_snoc l k h, nxR_snoc]
/-- Commands that keep the rules name pages that are there. -/
def SeenOk (p : Int) (l : List Cmd) : Prop := ∀ k, k < l.length → (l.getD k ⟨0, 0, 0, 0⟩).k = 1 → 0 ≤ (l.getD k ⟨0, 0, 0, 0⟩).p ∧ (l.getD k ⟨0, 0, 0, 0⟩).p < p
set_option maxRecDepth 100000 in
set_option maxHeartbeats 6400000 in
theorem next_any (q : Nat) (b p s : Int) (A : Option Addr) (n c : Nat) (clean : Bool) (V : Option Addr) (N cN : Nat) (seen : List Cmd) (blk : Int) (w : World) (hst : Blk w q 79 (rfV b p s A n c clean V N cN)) (hs : Rd w V (cmdV seen)) (hN : seen.length = N) (hok : SeenOk p seen) (hp : p ≤ 256) (hm2 : N ≤ 140737488355328) :
    Calls Try.prog 40 #[.pointer (some ⟨q, 0, none⟩), .int .i64 blk] w fun e w' => e = .returned (.int .i64 (nxR p clean seen blk)) ∧ Below w.heap.size w w' := by
  obtain ⟨c0, c1, c3, c4, c5⟩ := cellsR hst
  have HN := Lib.hid hN
  have HST := Lib.hid hst
  have HOK := Lib.hid hok
  have hnx := fun k h => nx_take p blk clean seen k h
  have HNX := Lib.hid hnx
  have hfin : nxR p clean (seen.take N) blk = nxR p clean seen blk := by rw [← hN, List.take_length]
  rw [← hfin]
  have h0 : nxR p clean (seen.take 0) blk = nx0 p clean := rfl
  obtain ⟨F, hF⟩ : ∃ F : Nat → Int, F = fun k => nxR p clean (seen.take k) blk := ⟨_, rfl⟩
  have hFN : nxR p clean (seen.take N) blk = F N := by rw [hF]
  rw [hFN]
  have hF0 : F 0 = nx0 p clean := by rw [hF]; exact h0
  have hFS : ∀ k, k < seen.length → F (k + 1) = nxS p blk (F k) (seen.getD k ⟨0, 0, 0, 0⟩) := fun k h => by rw [hF]; exact HNX.out k h
  have HF0 := Lib.hid hF0
  have HFS := Lib.hid hFS
  clear hst hN hok hnx HNX hfin h0 hF hFN hF0 hFS
  go_enter Try.func40, Try.ntmps40
  go_upto_if 16 with (fail)
  go_cut [5] (fun v wx => v = .int .i64 (F 0) ∧ wx = w)
  case first =>
    cases clean with
    | true =>
      go_wp2
      go_meet
      exact ⟨by rw [HF0.out]; rfl, rfl⟩
    | false =>
      go_wp2
      go_meet
      exact ⟨by rw [HF0.out]; rfl, rfl⟩
  case rest =>
  obtain ⟨rfl, hwc⟩ := hcut
  rw [hwc]
  clear hwc c0 c1 c3 c4 c5
  go_wp2
  go_loopw [5, 6] (fun v ii wr => ∃ k : Nat, k ≤ N ∧ ii = .int .i64 k ∧ v = .int .i64 (F k) ∧ Below w.heap.size w wr) (fun _ ii _ => N - (intJ ii))
  case atStart => exact ⟨0, by omega, rfl, rfl, Below.refl _ _⟩
  case round =>
    obtain ⟨k, hk, rfl, rfl, hb⟩ := hrel
    obtain ⟨c0, c1, c3, c4, c5⟩ := cellsR (HST.out.frm (ex := fun _ => False) (Frm.of_below hb) id)
    by_cases hlt : k < N
    · have hlti : (k : Int) < (N : Int) := by omega
      obtain ⟨ad2, rfl, d0, d1, d2, d3⟩ := rd_cmd (hs.below hb) k (by have := HN.out; omega)
      have hfk := HFS.out k (by have := HN.out; omega)
      have hck := HOK.out k (by have := HN.out; omega)
      generalize seen.getD k ⟨0, 0, 0, 0⟩ = cc at *
      obtain ⟨ck, cb, cp, cs⟩ := cc
      simp only at d0 d1 d2 d3 hck
      have HFK := Lib.hid hfk
      have HCK := Lib.hid hck
      clear hfk hck
      go_upto_region 8 with fail
      obtain ⟨w3, hw3⟩ : ∃ x, x = wr.alloc (.cells #[.int .i64 ck, .int .i64 cb, .int .i64 cp, .int .i64 cs] 33) := ⟨_, rfl⟩
      have hb3 : Below w.heap.size w w3 := by rw [hw3]; exact hb.alloc hb.size _
      have kc : Blk w3 wr.heap.size 33 [.int .i64 ck, .int .i64 cb, .int .i64 cp, .int .i64 cs] := by rw [hw3]; exact Blk.new wr _ [.int .i64 ck, .int .i64 cb, .int .i64 cp, .int .i64 cs]
      rw [← hw3]
      obtain ⟨Z, hZ⟩ : ∃ Z, Z = wr.heap.size := ⟨_, rfl⟩
      rw [← hZ] at kc ⊢
      clear hw3 hZ hb d0 d1 d2 d3 c0 c1 c3 c4 c5
      obtain ⟨c0, c1, c3, c4, c5⟩ := cellsR (HST.out.frm (ex := fun _ => False) (Frm.of_below hb3) id)
      have k0 : w3.cell? ⟨Z, 0, none⟩ = some (.int .i64 ck) := kc.cell 0
      have k1 : w3.cell? ⟨Z, 1, none⟩ = some (.int .i64 cb) := kc.cell 1
      have k2 : w3.cell? ⟨Z, 2, none⟩ = some (.int .i64 cp) := kc.cell 2
      have k3 : w3.cell? ⟨Z, 3, none⟩ = some (.int .i64 cs) := kc.cell 3
      clear kc
      by_cases h1 : cb = blk
      · by_cases h2 : ck = 1
        · have hw1 : IntKind.i64.wrap (cp + 1) = cp + 1 := by have := HCK.out h2; rw [IntKind.wrap_i64]; omega
          have hv : F (k + 1) = cp + 1 := by rw [HFK.out]; unfold nxS; simp only; rw [if_pos h1, if_neg (show ¬ ck = 2 by omega), if_pos h2]
          have HV := Lib.hid hv
          clear hv HFK
          go_wp2
          go_roundw
          case rel => exact ⟨k + 1, by omega, by go_num, by rw [HV.out], hb3⟩
          case measure => simp [intJ]; omega
        · by_cases h3 : ck = 2
          · by_cases h4 : cs = 0
            · have hv : F (k + 1) = 0 := by rw [HFK.out]; unfold nxS; simp only; rw [if_pos h1, if_pos h3, if_pos h4]
              have HV := Lib.hid hv
              clear hv HFK
              go_wp2
              go_roundw
              case rel => exact ⟨k + 1, by omega, by go_num, by rw [HV.out], hb3⟩
              case measure => simp [intJ]; omega
            · have hv : F (k + 1) = p := by rw [HFK.out]; unfold nxS; simp only; rw [if_pos h1, if_pos h3, if_neg h4]
              have HV := Lib.hid hv
              clear hv HFK
              go_wp2
              go_roundw
              case rel => exact ⟨k + 1, by omega, by go_num, by rw [HV.out], hb3⟩
              case measure => simp [intJ]; omega
          · have hv : F (k + 1) = F k := by rw [HFK.out]; unfold nxS; simp only; rw [if_pos h1, if_neg h3, if_neg h2]
            have HV := Lib.hid hv
            clear hv HFK
            go_wp2
            go_roundw
            case rel => exact ⟨k + 1, by omega, by go_num, by rw [HV.out], hb3⟩
            case measure => simp [intJ]; omega
      · have hv : F (k + 1) = F k := by rw [HFK.out]; unfold nxS; simp only; rw [if_neg h1]
        have HV := Lib.hid hv
        clear hv HFK
        go_wp2
        go_roundw
        case rel => exact ⟨k + 1, by omega, by go_num, by rw [HV.out], hb3⟩
        case measure => simp [intJ]; omega
    · obtain rfl : k = N := by omega
      go_wp2
      go_ret
      exact ⟨rfl, hb⟩
end Go.Proofs.Ytagfcndpblekkaa
