/- Walks of the law's own helpers. -/
import Derived.Test.YtafjnkmfebibfaaDoorProg
import Derived.Test.YtafjnkmfebibfaaDoorMem
import Derived.WalkKit
import Derived.WalkLawsBesides
import Derived.WalkSpells
import Derived.Outline
import Derived.Lib.Hide
import Derived.IntWalk
import Derived.Deep.LoopGhost
namespace Go.Proofs.YtafjnkmfebibfaaDoor
open Go.RowKit
set_option linter.unusedVariables false
set_option linter.unusedSimpArgs false

theorem info5 : (Tryd.prog.info? 5).map (fun i => (i.zero, i.size, i.bytes)) = some (some (.int .u8 0), 1, 1) := by kernel_rfl
set_option maxHeartbeats 800000 in
theorem marked_any (A : Option Addr) (n cap : Nat) (l : List UInt8) (w : World) (hl : l.length = n) (hr : Rd w A (u8s l)) (hm : n ≤ 140737488351232) :
    Calls Tryd.prog 9 #[.slice A n cap] w fun e w' => ∃ g cp sp, e = .returned (.slice (some ⟨g, 0, none⟩) n cp) ∧ Blk w' g 5 (u8s (l ++ [161, 178, 195]) ++ sp) ∧ n + 3 ≤ cp ∧ w.heap.size ≤ g ∧ Below w.heap.size w w' := by
  have HL := Lib.hid hl
  clear hl
  have h0 : Own (w.alloc (.cells #[] 5)) 5 1 (.slice (some ⟨w.heap.size, 0, none⟩) 0 0) 0 [] [] := Own.new w 5 1 0 [] rfl (Nat.zero_le _)
  have hr1 : Rd (w.alloc (.cells #[] 5)) A (u8s l) := hr.below ((Below.refl _ _).alloc (Nat.le_refl _) _)
  go_enter Tryd.func9, Tryd.ntmps9
  go_wp2_with (at_builtin; refine wpList_app _ rfl (.tmp 4) (.tmp 5) 22 rfl 5 _ 1 1 Tryd.underlying22 info5 rfl (by decide) rfl h0 rfl ?_ hr1 (one_u8s l) ?_ ?_ ?_)
  · have := HL.out; simp [u8s]; omega
  · unfold maxLen; omega
  · omega
  · intro v1 w1 sp1 ho1 hy1
    have hf1 := hy1.frm
    have hat1 := hy1.at_
    clear hy1
    have hn1 : Rd (w1.alloc (.cells (u8s [161, 178, 195]).toArray 5)) (some ⟨w1.heap.size, 0, none⟩) (u8s [161, 178, 195]) := Rd.of_blk (sp := []) (by simpa using Blk.new w1 5 (u8s [161, 178, 195]))
    have ho1' := ho1.frm ((Frm.refl (fun _ => False) w1).alloc (.cells (u8s [161, 178, 195]).toArray 5)) (fun _ _ h => h)
    simp only [u8s, bv, List.map_cons, List.map_nil] at hn1 ho1'
    clear hr hr1 ho1 h0
    go_wp2_with (at_builtin; refine wpList_app _ rfl (.tmp 6) (.tmp 7) 22 rfl 5 _ 1 1 Tryd.underlying22 info5 rfl (by decide) rfl ho1' rfl ?_ hn1 (one_u8s [161, 178, 195]) ?_ ?_ ?_)
    · rfl
    · unfold maxLen; omega
    · omega
    · intro v2 w2 sp2 ho2 hy2
      have hf2 := hy2.frm
      have hat2 := hy2.at_
      clear hy2
      obtain ⟨g, cp, rfl, hb, hl2, hc2, hn2, hm2⟩ := ho2.blk (by omega)
      go_wp2
      go_ret
      have f1 := fresh_app (B := w.heap.size) (v := .slice (some ⟨w.heap.size, 0, none⟩) 0 0) (by simp) (by intro k hk; cases hk; exact Nat.le_refl _) hat1
      have f2 := fresh_app (B := w.heap.size) (by have := hf1.size; simp at this ⊢; omega) f1 hat2
      have b1 : Below w.heap.size w w1 := below_frm ((Below.refl _ w).alloc (Nat.le_refl _) (.cells #[] 5)) (by simp) hf1 (by intro k hk; cases hk; exact Nat.le_refl _)
      have b2 : Below w.heap.size w w2 := below_frm (b1.alloc b1.size _) (by have := b1.size; simp; omega) hf2 (fun k hk => f1 k hk)
      exact ⟨g, cp, sp2, rfl, by rw [u8s_append]; exact hb, hn2, f2 g rfl, b2⟩

/-- Only draws. -/
def Drn (w w' : World) : Prop := ∃ m, w' = w.drewN m
set_option maxHeartbeats 800000 in
theorem kept_true (g n cap cp1 : Nat) (A1 : Option Addr) (l : List UInt8) (sp : List Value) (w : World) (hl : l.length = n) (hb : Blk w g 5 (u8s (l ++ [161, 178, 195]) ++ sp)) (hc : n + 3 ≤ cap) (hr : Rd w A1 (u8s l)) (hm : n ≤ 140737488351232) :
    Calls Tryd.prog 11 #[.slice (some ⟨g, 0, none⟩) n cap, .slice A1 n cp1] w fun e w' => e = .returned (.bool true) ∧ Drn w w' := by
  have HL := Lib.hid hl
  clear hl
  have hrl : Rd w (some ⟨g, 0, none⟩) (u8s l) := Rd.of_blk (sp := u8s [161, 178, 195] ++ sp) (by rw [← List.append_assoc, ← u8s_append]; exact hb)
  have hs1 : ∀ (k c : Nat), (convert 22 9 (.slice (some ⟨g, 0, none⟩) n c)).run Tryd.prog (w.drewN k) = .ok (.string ⟨l.toArray⟩) (w.drewN k) := fun k c => rd_string 22 9 5 Tryd.underlying22 Tryd.underlying5 Tryd.underlying9 HL.out (hrl.drewN k)
  have hs2 : ∀ (k c : Nat), (convert 22 9 (.slice A1 n c)).run Tryd.prog (w.drewN k) = .ok (.string ⟨l.toArray⟩) (w.drewN k) := fun k c => rd_string 22 9 5 Tryd.underlying22 Tryd.underlying5 Tryd.underlying9 HL.out (hr.drewN k)
  have hlen : (u8s l).length = n := by rw [u8s_length, HL.out]
  have c0 : w.cell? ⟨g, n, none⟩ = some (.int .u8 161) := by rw [hb.cell, u8s_append, List.append_assoc, List.getElem?_append_right (by omega), hlen]; simp [u8s]; rfl
  have c1 : w.cell? ⟨g, n + 1, none⟩ = some (.int .u8 178) := by rw [hb.cell, u8s_append, List.append_assoc, List.getElem?_append_right (by omega), hlen]; simp [u8s]; rfl
  have c2 : w.cell? ⟨g, n + 2, none⟩ = some (.int .u8 195) := by rw [hb.cell, u8s_append, List.append_assoc, List.getElem?_append_right (by omega), hlen]; simp [u8s]; rfl
  clear hrl hb hlen hr
  go_enter Tryd.func11, Tryd.ntmps11
  go_wp2
  go_quiet (fail)
  go_wp2
  go_ret
  exact ⟨rfl, _, rfl⟩
end Go.Proofs.YtafjnkmfebibfaaDoor
