/- The walk of the law's begun: two judges. -/
import Derived.Test.YtagfcndpblekkaaJg2
import Derived.Test.YtagfcndpblekkaaJt1
namespace Go.Proofs.Ytagfcndpblekkaa
open Go.RowKit Go.Maps
set_option linter.unusedVariables false
set_option linter.unusedSimpArgs false
/-- Both judges, begun. -/
def BegP (w : World) (b p s : Int) (n : Nat) (m : List Bool) (clean : Bool) (e : Ending) (w' : World) : Prop :=
  ∃ (a : JA) (q gm c' : Nat) (sp : List Value), e = .returned (.tuple #[.pointer (some ⟨a.q, 0, none⟩), .pointer (some ⟨q, 0, none⟩), .bool true]) ∧ JQ w' a n p s m clean [] n ∧ RJ w' q b p s (some ⟨gm, 0, none⟩) n c' clean (.slice none 0 0) [] ∧ Blk w' gm 4 (bls m ++ sp) ∧
    (∀ k, a.own k → w.heap.size ≤ k ∧ k ≠ q ∧ k ≠ gm) ∧ w.heap.size ≤ q ∧ w.heap.size ≤ gm ∧ q ≠ gm ∧ Below w.heap.size w w'
set_option maxRecDepth 100000 in
set_option maxHeartbeats 6400000 in
theorem begun_ok (w : World) (b p s : Int) (A : Option Addr) (n c : Nat) (m : List Bool) (hml : m.length = n) (hr : Rd w A (bls m)) (clean : Bool) (h0 : newE b p s n = 0) :
    Calls Try.prog 9 #[.agg #[.int .i64 b, .int .i64 p, .int .i64 s], .slice A n c, .bool clean] w (BegP w b p s n m clean) := by
  obtain ⟨hz1, hnb⟩ := newE_zero h0
  have hn4 : n ≤ 4096 := by omega
  have hn8 : 8 ≤ n := by omega
  obtain ⟨w1, hw1⟩ : ∃ x, x = w.alloc (.cells #[.int .i64 b, .int .i64 p, .int .i64 s] 23) := ⟨_, rfl⟩
  have b1 : Below w.heap.size w w1 := by rw [hw1]; exact (Below.refl _ w).alloc (Nat.le_refl _) _
  have kg : Blk w1 w.heap.size 23 [.int .i64 b, .int .i64 p, .int .i64 s] := by rw [hw1]; exact Blk.new w _ [.int .i64 b, .int .i64 p, .int .i64 s]
  obtain ⟨G, hG⟩ : ∃ G, G = w.heap.size := ⟨_, rfl⟩
  rw [← hG] at kg
  have hRN := fun wx => rNew_any b p s A n c wx
  rw [h0] at hRN
  have hM := fun wx h => marks_any A n c m wx hml h (by omega)
  have hNw := fun (A' : Option Addr) (c' : Nat) wx h1 => New_jq b p s A' n c' m clean wx hml h1 h0
  have hMK := fun (A0 : Option Addr) (c0 : Nat) (wx : World) h0 h1 h2 h3 => marksKept_any A0 A n c0 c m wx hml h0 h1 h2 h3 (by omega)
  have H2 := Lib.hid hRN
  have H3 := Lib.hid hM
  have H5 := Lib.hid hNw
  have H6 := Lib.hid hMK
  have HML := Lib.hid hml
  have HG0 := Lib.hid hG
  have HR := Lib.hid hr
  clear hRN hM hNw hMK h0 hz1 hml hnb hr
  have k0 : w1.cell? ⟨G, 0, none⟩ = some (.int .i64 b) := kg.cell 0
  have k1 : w1.cell? ⟨G, 1, none⟩ = some (.int .i64 p) := kg.cell 1
  have k2 : w1.cell? ⟨G, 2, none⟩ = some (.int .i64 s) := kg.cell 2
  go_enter Try.func9, Try.ntmps9
  go_wp2_with fail
  rw [← hw1, ← hG]
  clear hw1 hG
  with_reducible refine (H2.out w1).mono ?_
  rintro e w2 ⟨rfl, b2⟩
  replace kg := kg.bel b2
  replace b2 := b1.trans (b2.mono b1.size)
  clear b1 k0 k1 k2
  go_wp2_with fail
  with_reducible refine (H3.out w2 (HR.out.below b2)).mono ?_
  rintro e w3 ⟨g3, c3, sp3, rfl, r3, h31, _, h32, h33, b3⟩
  have hGg : G < g3 := Nat.lt_of_lt_of_le kg.lt h33
  replace kg := kg.bel b3
  replace b3 := b2.trans (b3.mono b2.size)
  have hwg : w.heap.size ≤ g3 := Nat.le_trans b2.size h33
  clear b2 h33
  have k0 : w3.cell? ⟨G, 0, none⟩ = some (.int .i64 b) := kg.cell 0
  have k1 : w3.cell? ⟨G, 1, none⟩ = some (.int .i64 p) := kg.cell 1
  have k2 : w3.cell? ⟨G, 2, none⟩ = some (.int .i64 s) := kg.cell 2
  go_wp2_with fail
  with_reducible refine (H5.out (some ⟨g3, 0, none⟩) c3 w3 (rd_two r3)).mono ?_
  rintro e w4 ⟨a, rfl, hq, hoa, b4⟩
  have hog : ∀ k, a.own k → w.heap.size ≤ k ∧ k ≠ g3 := fun k h => by
    have h1 := hoa k h
    have h2 := r3.lt
    have h3 := b3.size
    exact ⟨by omega, by omega⟩
  have hgo : ∀ k, a.own k → k ≠ G := fun k h => by
    have h1 := hoa k h
    have h2 := kg.lt
    omega
  replace kg := kg.bel b4
  replace r3 := r3.bel b4
  replace b4 := b3.trans (b4.mono b3.size)
  clear b3 hoa k0 k1 k2
  go_wp2_with fail
  with_reducible refine (H6.out (some ⟨g3, 0, none⟩) c3 w4 (rd_left (Rd.of_blk (sp := []) (by rw [List.append_nil]; exact r3))) (HR.out.below b4) h31 h32).mono ?_
  rintro e w5 ⟨rfl, b5⟩
  replace kg := kg.bel b5
  replace r3 := r3.bel b5
  replace hq := hq.bel b5
  replace b5 := b4.trans (b5.mono b4.size)
  have HOG := Lib.hid hog
  have HQ := Lib.hid hq
  have HWG := Lib.hid hwg
  have HGG := Lib.hid hGg
  have HKG := Lib.hid kg
  have HB5 := Lib.hid b5
  obtain ⟨R, hR⟩ : ∃ R, bls m ++ [.bool true, .bool false, .bool true] ++ sp3 = bls m ++ R := ⟨_, by rw [List.append_assoc]⟩
  rw [hR] at r3
  clear b4 H2 H3 H5 H6 hog hq hwg hGg kg b5 hR
  go_wp2
  go_loopw [14] (fun ii wr => ∃ (k : Nat) (l : List Bool), k ≤ n ∧ ii = .int .i64 k ∧ l.length = n ∧ Blk wr g3 4 (bls l ++ R) ∧ Frm (fun j => j = g3) w5 wr) (fun ii _ => n - (intJ ii))
  case atStart => exact ⟨0, m, by omega, rfl, HML.out, r3, Frm.refl _ _⟩
  case round =>
    clear r3
    obtain ⟨k, l, hk, rfl, hll, r3, hf⟩ := hrel
    have HLL := Lib.hid hll
    clear hll
    by_cases hlt : k < n
    · have hlti : (k : Int) < (n : Int) := by omega
      have hc : wr.cell? ⟨g3, k, none⟩ = some (.bool (l.getD k false)) := by
        rw [r3.cell, List.getElem?_append_left (by rw [bls_len, HLL.out]; exact hlt)]
        exact bls_at l k (by rw [HLL.out]; exact hlt)
      have hfz := r3.frozen k
      have hst : Blk (wr.setCell ⟨g3, k, none⟩ (.bool (!(l.getD k false)))) g3 4 (bls (l.set k (!(l.getD k false))) ++ R) := by
        have h2 := r3.set_ k (.bool (!(l.getD k false)))
        rw [List.set_append_left _ _ (by rw [bls_len, HLL.out]; exact hlt), show (bls l).set k (.bool (!(l.getD k false))) = bls (l.set k (!(l.getD k false))) by simp [bls, List.map_set]] at h2
        exact h2
      have hff : Frm (fun j => j = g3) w5 (wr.setCell ⟨g3, k, none⟩ (.bool (!(l.getD k false)))) := hf.setCell (p := ⟨g3, k, none⟩) (fun _ => rfl) _
      have hl2 : (l.set k (!(l.getD k false))).length = n := by rw [List.length_set]; exact HLL.out
      generalize l.set k (!(l.getD k false)) = l2 at *
      generalize l.getD k false = x at *
      have HST := Lib.hid hst
      have HFF := Lib.hid hff
      have HL2 := Lib.hid hl2
      clear hst hff hl2 r3 hf
      go_wp2
      refine ⟨⟨k + 1, l2, by omega, by go_num, HL2.out, HST.out, HFF.out⟩, ?_⟩
      simp [intJ]
      omega
    · obtain rfl : k = n := by omega
      have kg := HKG.out.frm hf (fun h => by have := HGG.out; omega)
      have hq := HQ.out.frm hf (fun j hj h => (HOG.out j hj).2 h)
      have bb : Below w.heap.size w wr := below_frm HB5.out HB5.out.size hf (fun j hj => by rw [hj]; exact HWG.out)
      have rA := HR.out.below bb
      clear HKG HQ HB5 HR r3 hf
      obtain ⟨wb, hwb⟩ : ∃ x, x = wr := ⟨_, rfl⟩
      rw [← hwb] at kg hq bb rA ⊢
      clear hwb
      have HKG := Lib.hid (show ∀ wx, Below wb.heap.size wb wx → wx.cell? ⟨G, 0, none⟩ = some (.int .i64 b) ∧ wx.cell? ⟨G, 1, none⟩ = some (.int .i64 p) ∧ wx.cell? ⟨G, 2, none⟩ = some (.int .i64 s) from fun wx hb => ⟨(kg.bel hb).cell 0, (kg.bel hb).cell 1, (kg.bel hb).cell 2⟩)
      have HQ := Lib.hid hq
      have HBB := Lib.hid bb
      have HRA := Lib.hid (rd_keep rA)
      clear kg hq bb rA
      go_upto_region 9 with fail
      have e0 : Below wb.heap.size wb wb.drew := bel_drew (Below.refl _ _)
      have e1 : Below wb.heap.size wb (wb.alloc (.cells #[] 4)) := (Below.refl _ wb).alloc (Nat.le_refl _) _
      have e2 : Below wb.heap.size wb (wb.alloc (.cells #[] 4)).drew := bel_drew e1
      have oE := (own_empty wb 4 1).drew
      go_region_held3 (fun wx => wx.cell? ⟨G, 0, none⟩ = some (.int .i64 b) ∧ wx.cell? ⟨G, 1, none⟩ = some (.int .i64 p) ∧ wx.cell? ⟨G, 2, none⟩ = some (.int .i64 s)) (first | exact HKG.out _ (by assumption) | exact HKG.out _ (q6.alloc q6.size _)) (first
        | ((with_reducible refine at_world ((wb.alloc (.cells #[] 4)).drew) ?_); refine step_appx _ (by rfl) (.tmp 58) (.tmp 59) 24 (by rfl) 4 _ 1 1 Try.underlying24 info4 rfl (by decide) (by rfl) oE (by rfl) (by rw [bls_len, HML.out]; exact (Nat.mul_one _).symm) (HRA.out _ e2) (one_bls m) (by unfold maxLen; omega) (by omega) ?_; intro v1 w6 sp1 o1 y1; obtain ⟨q6, f1⟩ := lay_frm0 e2 y1 (fun k hk => by cases hk; exact Nat.le_refl _); simp only [Nat.zero_add, List.nil_append] at o1; obtain ⟨gm, cm, rfl, km, _⟩ := o1.blk (by omega); have hgm := f1 gm rfl; clear y1 f1 o1; dsimp only))
      all_goals
        go_wp2_with fail
      all_goals
        go_ret3
        have h1 := q6.size
        have h2 := HBB.out.size
        have h3 := km.lt
        exact ⟨a, w6.heap.size, gm, cm, sp1, rfl, HQ.out.bel (q6.alloc q6.size _), ⟨none, 0, [], rfl, Blk.new w6 _ (rfV b p s (some ⟨gm, 0, none⟩) k cm clean none 0 0), .inl ⟨rfl, rfl, rfl, rfl⟩, (fun h => by cases h), (fun k hk => by cases hk)⟩, km.alloc _, fun j hj => ⟨(HOG.out j hj).1, by have := HQ.out.lt j hj; omega, by have := HQ.out.lt j hj; omega⟩, by omega, by omega, by omega, HBB.out.trans ((q6.alloc q6.size _).mono HBB.out.size)⟩
set_option maxRecDepth 100000 in
set_option maxHeartbeats 6400000 in
theorem begun_no (w : World) (b p s : Int) (A : Option Addr) (n c : Nat) (m : List Bool) (hml : m.length = n) (hr : Rd w A (bls m)) (hm : n ≤ 140737488351232) (clean : Bool) (h0 : newE b p s n ≠ 0) :
    Calls Try.prog 9 #[.agg #[.int .i64 b, .int .i64 p, .int .i64 s], .slice A n c, .bool clean] w fun e w' => ∃ q : Nat, e = .returned (.tuple #[.pointer none, .pointer (some ⟨q, 0, none⟩), .bool true]) ∧ Below w.heap.size w w' := by
  obtain ⟨w1, hw1⟩ : ∃ x, x = w.alloc (.cells #[.int .i64 b, .int .i64 p, .int .i64 s] 23) := ⟨_, rfl⟩
  have b1 : Below w.heap.size w w1 := by rw [hw1]; exact (Below.refl _ w).alloc (Nat.le_refl _) _
  have kg : Blk w1 w.heap.size 23 [.int .i64 b, .int .i64 p, .int .i64 s] := by rw [hw1]; exact Blk.new w _ [.int .i64 b, .int .i64 p, .int .i64 s]
  obtain ⟨G, hG⟩ : ∃ G, G = w.heap.size := ⟨_, rfl⟩
  rw [← hG] at kg
  have hRN := fun wx => rNew_any b p s A n c wx
  have hM := fun wx h => marks_any A n c m wx hml h (by omega)
  have hNw := fun (A' : Option Addr) (c' : Nat) wx => New_no b p s A' n c' clean wx h0
  have hMK := fun (A0 : Option Addr) (c0 : Nat) (wx : World) h0 h1 h2 h3 => marksKept_any A0 A n c0 c m wx hml h0 h1 h2 h3 (by omega)
  have hb2 : (newE b p s n != 0) = true := by simpa using h0
  generalize newE b p s n = Y at *
  have H2 := Lib.hid hRN
  have H3 := Lib.hid hM
  have H5 := Lib.hid hNw
  have H6 := Lib.hid hMK
  have HML := Lib.hid hml
  have HR := Lib.hid hr
  clear hRN hM hNw hMK h0 hml hr
  have k0 : w1.cell? ⟨G, 0, none⟩ = some (.int .i64 b) := kg.cell 0
  have k1 : w1.cell? ⟨G, 1, none⟩ = some (.int .i64 p) := kg.cell 1
  have k2 : w1.cell? ⟨G, 2, none⟩ = some (.int .i64 s) := kg.cell 2
  go_enter Try.func9, Try.ntmps9
  go_wp2_with fail
  rw [← hw1, ← hG]
  have HG0 := Lib.hid hG
  clear hw1 hG
  with_reducible refine (H2.out w1).mono ?_
  rintro e w2 ⟨rfl, b2⟩
  replace kg := kg.bel b2
  replace b2 := b1.trans (b2.mono b1.size)
  clear b1 k0 k1 k2
  go_wp2_with fail
  with_reducible refine (H3.out w2 (HR.out.below b2)).mono ?_
  rintro e w3 ⟨g3, c3, sp3, rfl, r3, h31, _, h32, h33, b3⟩
  have hGg : G < g3 := Nat.lt_of_lt_of_le kg.lt h33
  replace kg := kg.bel b3
  replace b3 := b2.trans (b3.mono b2.size)
  have hwg : w.heap.size ≤ g3 := Nat.le_trans b2.size h33
  clear b2 h33
  have k0 : w3.cell? ⟨G, 0, none⟩ = some (.int .i64 b) := kg.cell 0
  have k1 : w3.cell? ⟨G, 1, none⟩ = some (.int .i64 p) := kg.cell 1
  have k2 : w3.cell? ⟨G, 2, none⟩ = some (.int .i64 s) := kg.cell 2
  go_wp2_with fail
  with_reducible refine (H5.out (some ⟨g3, 0, none⟩) c3 w3).mono ?_
  rintro e w4 ⟨rfl, b4⟩
  replace kg := kg.bel b4
  replace r3 := r3.bel b4
  replace b4 := b3.trans (b4.mono b3.size)
  clear b3 k0 k1 k2
  go_wp2_with fail
  with_reducible refine (H6.out (some ⟨g3, 0, none⟩) c3 w4 (rd_left (Rd.of_blk (sp := []) (by rw [List.append_nil]; exact r3))) (HR.out.below b4) h31 h32).mono ?_
  rintro e w5 ⟨rfl, b5⟩
  replace kg := kg.bel b5
  replace r3 := r3.bel b5
  replace b5 := b4.trans (b5.mono b4.size)
  have HWG := Lib.hid hwg
  have HGG := Lib.hid hGg
  have HKG := Lib.hid kg
  have HB5 := Lib.hid b5
  obtain ⟨R, hR⟩ : ∃ R, bls m ++ [.bool true, .bool false, .bool true] ++ sp3 = bls m ++ R := ⟨_, by rw [List.append_assoc]⟩
  rw [hR] at r3
  clear b4 H2 H3 H5 H6 hwg hGg kg b5 hR
  go_wp2
  go_loopw [14] (fun ii wr => ∃ (k : Nat) (l : List Bool), k ≤ n ∧ ii = .int .i64 k ∧ l.length = n ∧ Blk wr g3 4 (bls l ++ R) ∧ Frm (fun j => j = g3) w5 wr) (fun ii _ => n - (intJ ii))
  case atStart => exact ⟨0, m, by omega, rfl, HML.out, r3, Frm.refl _ _⟩
  case round =>
    clear r3
    obtain ⟨k, l, hk, rfl, hll, r3, hf⟩ := hrel
    have HLL := Lib.hid hll
    clear hll
    by_cases hlt : k < n
    · have hlti : (k : Int) < (n : Int) := by omega
      have hc : wr.cell? ⟨g3, k, none⟩ = some (.bool (l.getD k false)) := by
        rw [r3.cell, List.getElem?_append_left (by rw [bls_len, HLL.out]; exact hlt)]
        exact bls_at l k (by rw [HLL.out]; exact hlt)
      have hfz := r3.frozen k
      have hst : Blk (wr.setCell ⟨g3, k, none⟩ (.bool (!(l.getD k false)))) g3 4 (bls (l.set k (!(l.getD k false))) ++ R) := by
        have h2 := r3.set_ k (.bool (!(l.getD k false)))
        rw [List.set_append_left _ _ (by rw [bls_len, HLL.out]; exact hlt), show (bls l).set k (.bool (!(l.getD k false))) = bls (l.set k (!(l.getD k false))) by simp [bls, List.map_set]] at h2
        exact h2
      have hff : Frm (fun j => j = g3) w5 (wr.setCell ⟨g3, k, none⟩ (.bool (!(l.getD k false)))) := hf.setCell (p := ⟨g3, k, none⟩) (fun _ => rfl) _
      have hl2 : (l.set k (!(l.getD k false))).length = n := by rw [List.length_set]; exact HLL.out
      generalize l.set k (!(l.getD k false)) = l2 at *
      generalize l.getD k false = x at *
      have HST := Lib.hid hst
      have HFF := Lib.hid hff
      have HL2 := Lib.hid hl2
      clear hst hff hl2 r3 hf
      go_wp2
      refine ⟨⟨k + 1, l2, by omega, by go_num, HL2.out, HST.out, HFF.out⟩, ?_⟩
      simp [intJ]
      omega
    · obtain rfl : k = n := by omega
      have kg := HKG.out.frm hf (fun h => by have := HGG.out; omega)
      have bb : Below w.heap.size w wr := below_frm HB5.out HB5.out.size hf (fun j hj => by rw [hj]; exact HWG.out)
      have rA := HR.out.below bb
      clear HKG HB5 HR r3 hf
      have HKG := Lib.hid (show ∀ wx, Below wr.heap.size wr wx → wx.cell? ⟨G, 0, none⟩ = some (.int .i64 b) ∧ wx.cell? ⟨G, 1, none⟩ = some (.int .i64 p) ∧ wx.cell? ⟨G, 2, none⟩ = some (.int .i64 s) from fun wx hb => ⟨(kg.bel hb).cell 0, (kg.bel hb).cell 1, (kg.bel hb).cell 2⟩)
      have HBB := Lib.hid bb
      have HRA := Lib.hid (rd_keep rA)
      clear kg bb rA
      go_upto_region 9 with fail
      have e0 : Below wr.heap.size wr wr.drew := bel_drew (Below.refl _ _)
      have e1 : Below wr.heap.size wr (wr.alloc (.cells #[] 4)) := (Below.refl _ wr).alloc (Nat.le_refl _) _
      have e2 : Below wr.heap.size wr (wr.alloc (.cells #[] 4)).drew := bel_drew e1
      have oE := (own_empty wr 4 1).drew
      go_region_held3 (fun wx => wx.cell? ⟨G, 0, none⟩ = some (.int .i64 b) ∧ wx.cell? ⟨G, 1, none⟩ = some (.int .i64 p) ∧ wx.cell? ⟨G, 2, none⟩ = some (.int .i64 s)) (first | exact HKG.out _ (by assumption) | exact HKG.out _ (q6.alloc q6.size _)) (first
        | ((with_reducible refine at_world ((wr.alloc (.cells #[] 4)).drew) ?_); refine step_appx _ (by rfl) (.tmp 58) (.tmp 59) 24 (by rfl) 4 _ 1 1 Try.underlying24 info4 rfl (by decide) (by rfl) oE (by rfl) (by rw [bls_len, HML.out]; exact (Nat.mul_one _).symm) (HRA.out _ e2) (one_bls m) (by unfold maxLen; omega) (by omega) ?_; intro v1 w6 sp1 o1 y1; obtain ⟨q6, f1⟩ := lay_frm0 e2 y1 (fun k hk => by cases hk; exact Nat.le_refl _); simp only [Nat.zero_add, List.nil_append] at o1; obtain ⟨A6, c6, rfl, _, _⟩ := o1.rd; clear y1 f1 o1; dsimp only))
      all_goals
        go_wp2_with fail
      all_goals
        go_ret3
        exact ⟨w6.heap.size, rfl, HBB.out.trans ((q6.alloc q6.size _).mono HBB.out.size)⟩
end Go.Proofs.Ytagfcndpblekkaa
