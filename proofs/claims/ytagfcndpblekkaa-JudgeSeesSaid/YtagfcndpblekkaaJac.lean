/- Walks of the law's marks and trace. -/
import Derived.Test.YtagfcndpblekkaaJab
namespace Go.Proofs.Ytagfcndpblekkaa
open Go.RowKit Go.Maps
set_option linter.unusedVariables false
set_option linter.unusedSimpArgs false
theorem info4 : (Try.prog.info? 4).map (fun i => (i.zero, i.size, i.bytes)) = some (some (.bool false), 1, 1) := by kernel_rfl
theorem one_bls (l : List Bool) : ∀ u ∈ bls l, u.oneCell' = true := by
  intro u hu
  obtain ⟨b, _, rfl⟩ := List.mem_map.mp hu
  rfl
theorem one_cmdV (l : List Cmd) : ∀ u ∈ cmdV l, u.oneCell' = true := by
  intro u hu
  obtain ⟨c, _, h⟩ := List.mem_flatMap.mp hu
  exact one_cmdC c u h
theorem fresh_appx {B N : Nat} (hBN : B ≤ N) {v v' : Value} (hv : ∀ k, v.ownBlock = some k → B ≤ k) (h : v'.ownBlock = v.ownBlock ∨ v'.ownBlock = some N) : ∀ k, v'.ownBlock = some k → B ≤ k := by
  intro k hk
  rcases h with h | h
  · exact hv k (h ▸ hk)
  · rw [h] at hk; cases hk; exact hBN
theorem addr_zeroj (x : Addr) : x.add 0 = x := by
  cases x <;> simp [Addr.add]
set_option maxRecDepth 100000 in
theorem sl_toB (A : Option Addr) (n0 c n : Nat) (h : n ≤ c) (hcm : c ≤ maxLen) (w : World) : (Instr.slice 24 (.slice A n0 c) none (some (.int .i64 (n : Int))) none).run Try.prog w = .ok (.slice A n c) w := by
  unfold maxLen at hcm
  rw [run_slice_h w _ _ _ _ Try.underlying24 .i64 (n : Int) (by omega) (by omega), show (sizeOf (Try.prog.elem 24)).run Try.prog w = .ok 1 w from by kernel_rfl]
  cases A <;> simp [Result.andThen, sliced, addr_zeroj]
set_option maxRecDepth 100000 in
theorem sl_toC (A : Option Addr) (n0 c n : Nat) (h : n ≤ c) (hcm : c ≤ maxLen) (w : World) : (Instr.slice 25 (.slice A n0 c) none (some (.int .i64 (n : Int))) none).run Try.prog w = .ok (.slice A n c) w := by
  unfold maxLen at hcm
  rw [run_slice_h w _ _ _ _ Try.underlying25 .i64 (n : Int) (by omega) (by omega), show (sizeOf (Try.prog.elem 25)).run Try.prog w = .ok 4 w from by kernel_rfl]
  cases A <;> simp [Result.andThen, sliced, addr_zeroj]
theorem own_empty (w : World) (t : TypeId) (size : Nat) : Owx (w.alloc (.cells #[] t)) t size (.slice (some ⟨w.heap.size, 0, none⟩) 0 0) 0 [] [] := .inr ⟨_, 0, rfl, Blk.new w t [], by simp, by simp, Nat.le_refl _, by simp [maxLen]⟩
set_option maxRecDepth 100000 in
set_option maxHeartbeats 6400000 in
theorem marks_any (A : Option Addr) (n c : Nat) (l : List Bool) (w : World) (hl : l.length = n) (hr : Rd w A (bls l)) (hm : n ≤ 140737488351232) :
    Calls Try.prog 18 #[.slice A n c] w fun e w' => ∃ g c' sp, e = .returned (.slice (some ⟨g, 0, none⟩) n c') ∧ Blk w' g 4 (bls l ++ [.bool true, .bool false, .bool true] ++ sp) ∧ n + 3 ≤ c' ∧ c' * 1 ≤ (n + 3) * 1 + sp.length ∧ c' ≤ maxLen ∧ w.heap.size ≤ g ∧ Below w.heap.size w w' := by
  have HL := Lib.hid hl
  have o1 := own_empty w 4 1
  have b1 : Below w.heap.size w (w.alloc (.cells #[] 4)) := (Below.refl _ w).alloc (Nat.le_refl _) _
  have r1 := hr.below b1
  have HB1 := Lib.hid b1
  clear hl hr b1
  go_enter Try.func18, Try.ntmps18
  go_wp2_with (at_builtin; first
    | (refine wpList_appx _ rfl (.tmp 4) (.tmp 5) 24 rfl 4 _ 1 1 Try.underlying24 info4 rfl (by decide) rfl o1 rfl (by rw [bls_len, HL.out]; exact (Nat.mul_one _).symm) r1 (one_bls l) (by unfold maxLen; omega) (by omega) ?_
       intro v1 w2 sp1 ho1 hy1
       have b2 : Below w.heap.size w w2 := below_frm HB1.out HB1.out.size hy1.frm (fun k hk => by cases hk; exact Nat.le_refl _)
       have f1 : ∀ k, v1.ownBlock = some k → w.heap.size ≤ k := fresh_appx HB1.out.size (fun k hk => by cases hk; exact Nat.le_refl _) hy1.at_
       simp only [Nat.zero_add, List.nil_append] at ho1
       have HO1 := Lib.hid ho1
       have HB2 := Lib.hid b2
       have HF1 := Lib.hid f1
       clear ho1 hy1 b2 f1 o1 r1)
    | (refine wpList_appx _ rfl (.tmp 6) (.tmp 7) 24 rfl 4 _ 1 1 Try.underlying24 info4 rfl (by decide) rfl (HO1.out.alloc _) rfl (by rfl) (rd_new _ _ [.bool true, .bool false, .bool true]) (one_bls [true, false, true]) (by unfold maxLen; omega) (by omega) ?_
       intro v2 w3 sp2 ho2 hy2
       have hs2 := HB2.out.size
       have b3 : Below w.heap.size w w3 := below_frm (HB2.out.alloc hs2 _) (by simp; omega) hy2.frm (fun k hk => HF1.out k hk)
       have f2 : ∀ k, v2.ownBlock = some k → w.heap.size ≤ k := fresh_appx (by simp; omega) HF1.out hy2.at_
       obtain ⟨g, cap, rfl, hb, hl3, hc3, hn3, hm3⟩ := ho2.blk (by omega)
       have hg : w.heap.size ≤ g := f2 g rfl
       rw [List.length_append, bls_len, HL.out] at hc3
       have hsl := sl_toB (some ⟨g, 0, none⟩) (n + 3) cap n (by omega) hm3
       clear hy2 hs2 f2 ho2 hl3))
  go_ret
  exact ⟨g, cap, sp2, rfl, hb, hn3, by have := hc3; simp at this; omega, hm3, hg, b3⟩
set_option maxRecDepth 100000 in
set_option maxHeartbeats 6400000 in
theorem trace_any (A : Option Addr) (n c : Nat) (l : List Cmd) (w : World) (hl : l.length = n) (hr : Rd w A (cmdV l)) (hm : n ≤ 4398046511000) :
    Calls Try.prog 19 #[.slice A n c] w fun e w' => ∃ g c' sp, e = .returned (.slice (some ⟨g, 0, none⟩) n c') ∧ Blk w' g 33 (cmdV l ++ [.int .i64 71, .int .i64 0, .int .i64 0, .int .i64 0, .int .i64 72, .int .i64 0, .int .i64 0, .int .i64 0] ++ sp) ∧ n + 2 ≤ c' ∧ c' * 4 ≤ (n + 2) * 4 + sp.length ∧ c' ≤ maxLen ∧ w.heap.size ≤ g ∧ Below w.heap.size w w' := by
  have HL := Lib.hid hl
  have o1 := own_empty w 33 4
  have b1 : Below w.heap.size w (w.alloc (.cells #[] 33)) := (Below.refl _ w).alloc (Nat.le_refl _) _
  have r1 := hr.below b1
  have HB1 := Lib.hid b1
  clear hl hr b1
  go_enter Try.func19, Try.ntmps19
  go_wp2_with (at_builtin; first
    | (refine wpList_appx _ rfl (.tmp 4) (.tmp 5) 25 rfl 33 _ 4 32 Try.underlying25 info33 rfl (by decide) rfl o1 rfl (by rw [cmdV_len, HL.out]; exact Nat.mul_comm _ _) r1 (one_cmdV l) (by unfold maxLen; omega) (by omega) ?_
       intro v1 w2 sp1 ho1 hy1
       have b2 : Below w.heap.size w w2 := below_frm HB1.out HB1.out.size hy1.frm (fun k hk => by cases hk; exact Nat.le_refl _)
       have f1 : ∀ k, v1.ownBlock = some k → w.heap.size ≤ k := fresh_appx HB1.out.size (fun k hk => by cases hk; exact Nat.le_refl _) hy1.at_
       simp only [Nat.zero_add, List.nil_append] at ho1
       have HO1 := Lib.hid ho1
       have HB2 := Lib.hid b2
       have HF1 := Lib.hid f1
       clear ho1 hy1 b2 f1 o1 r1)
    | (refine wpList_appx _ rfl (.tmp 6) (.tmp 9) 25 rfl 33 _ 4 32 Try.underlying25 info33 rfl (by decide) rfl (HO1.out.alloc _) rfl (by rfl) (rd_new _ _ [.int .i64 71, .int .i64 0, .int .i64 0, .int .i64 0, .int .i64 72, .int .i64 0, .int .i64 0, .int .i64 0]) (one_cmdV [⟨71, 0, 0, 0⟩, ⟨72, 0, 0, 0⟩]) (by unfold maxLen; omega) (by omega) ?_
       intro v2 w3 sp2 ho2 hy2
       have hs2 := HB2.out.size
       have b3 : Below w.heap.size w w3 := below_frm (HB2.out.alloc hs2 _) (by simp; omega) hy2.frm (fun k hk => HF1.out k hk)
       have f2 : ∀ k, v2.ownBlock = some k → w.heap.size ≤ k := fresh_appx (by simp; omega) HF1.out hy2.at_
       obtain ⟨g, cap, rfl, hb, hl3, hc3, hn3, hm3⟩ := ho2.blk (by omega)
       have hg : w.heap.size ≤ g := f2 g rfl
       rw [List.length_append, cmdV_len, HL.out] at hc3
       have hsl := sl_toC (some ⟨g, 0, none⟩) (n + 2) cap n (by omega) hm3
       clear hy2 hs2 f2 ho2 hl3))
  go_ret
  exact ⟨g, cap, sp2, rfl, hb, hn3, by have := hc3; simp at this; omega, hm3, hg, b3⟩
end Go.Proofs.Ytagfcndpblekkaa
