/- Walk of turned, told where its answer lies. -/
import Derived.Test.YtafjnkmfebibfaaDoorFu
namespace Go.Proofs.YtafjnkmfebibfaaDoor
open Go.RowKit
set_option linter.unusedVariables false
set_option linter.unusedSimpArgs false
set_option maxRecDepth 100000 in
set_option maxHeartbeats 3200000 in
theorem turned_any2 (A : Option Addr) (n cap : Nat) (l : List UInt8) (g m : Nat) (w : World) (hl : l.length = n) (hn : n = 256) (hr : Rd w A (u8s l)) (hg : g < 16777216) (hm : m < 2072) :
    Calls Tryd.prog 16 #[.slice A n cap, tri g, .int .i64 (m : Int)] w fun e w' => ∃ A' cap', e = .returned (.tuple #[.slice A' n cap', tri (turnG g m)]) ∧ Rd w' A' (u8s (turnL l m)) ∧ Below w.heap.size w w' ∧ (A' = A ∨ ∀ ad, A' = some ad → w.heap.size ≤ ad.block) := by
  have HL := Lib.hid hl
  have HN := Lib.hid hn
  clear hl
  have hn2 : n ≤ 1000 := by omega
  have hn3 : 256 ≤ n := by omega
  clear hn
  obtain ⟨x0, x1, x2, hx⟩ := tri_eq g
  have htri : tri g = .agg #[.int .u8 x0, .int .u8 x1, .int .u8 x2] := by unfold tri; rw [hx]
  obtain ⟨w2, hw2⟩ : ∃ w2, w2 = (w.alloc (.cells #[.int .u8 x0, .int .u8 x1, .int .u8 x2] 23)).alloc (.cells #[.int .u8 0, .int .u8 0, .int .u8 0] 23) := ⟨_, rfl⟩
  have hB : Below w.heap.size w w2 := by rw [hw2]; exact ((Below.refl _ w).alloc (Nat.le_refl _) _).alloc (by simp) _
  have hbg : Blk w2 w.heap.size 23 [.int .u8 x0, .int .u8 x1, .int .u8 x2] := by rw [hw2]; exact (Blk.new w _ [.int .u8 x0, .int .u8 x1, .int .u8 x2]).alloc _
  have hbt : Blk w2 (w.heap.size + 1) 23 [.int .u8 0, .int .u8 0, .int .u8 0] := by
    have h := Blk.new (w.alloc (.cells #[.int .u8 x0, .int .u8 x1, .int .u8 x2] 23)) 23 [.int .u8 0, .int .u8 0, .int .u8 0]
    rw [World.size_alloc] at h
    rw [hw2]; exact h
  have hr2 := hr.below hB
  rw [htri]
  by_cases hlt : m < 2048
  · have hT := fun wx hrx => Turned_any A n cap l m wx HL.out hrx (by omega) (by omega)
    rw [show turnG g m = g from if_pos hlt, show turnL l m = flipB l m from if_pos hlt, htri]
    go_enter Tryd.func16, Tryd.ntmps16
    go_wp2
    rw [← hw2]
    obtain ⟨G, hG⟩ : ∃ G, G = w.heap.size := ⟨_, rfl⟩
    rw [← hG] at hbg hbt ⊢
    have HG := Lib.hid hG
    clear hG hw2
    have hbgd : Blk w2.drew G 23 [.int .u8 x0, .int .u8 x1, .int .u8 x2] := hbg
    have hbtd : Blk w2.drew (G + 1) 23 [.int .u8 0, .int .u8 0, .int .u8 0] := hbt
    have hBd : Below w.heap.size w w2.drew := ⟨hB.os, hB.tape, hB.output, hB.size, hB.block⟩
    have hrd : Rd w2.drew A (u8s l) := hr2
    have d0 : w2.cell? ⟨G, 0, none⟩ = some (.int .u8 x0) := by rw [hbg.cell]; rfl
    have d1 : w2.cell? ⟨G, 1, none⟩ = some (.int .u8 x1) := by rw [hbg.cell]; rfl
    have d2 : w2.cell? ⟨G, 2, none⟩ = some (.int .u8 x2) := by rw [hbg.cell]; rfl
    clear hbg hbt hB hr2
    go_region_held3 (fun wx => wx.cell? ⟨G, 0, none⟩ = some (.int .u8 x0) ∧ wx.cell? ⟨G, 1, none⟩ = some (.int .u8 x1) ∧ wx.cell? ⟨G, 2, none⟩ = some (.int .u8 x2)) (first | exact cells3 (by assumption) | go_keep) (first | (go_at_call 23; (with_reducible refine (hT _ hrd).mono ?_); rintro e w3 ⟨v1, sp1, rfl, ho1, hv1, hb3⟩; have hbg3 := hbgd.frm (ex := fun _ => False) (Frm.of_below hb3) id; have hbt3 := hbtd.frm (ex := fun _ => False) (Frm.of_below hb3) id; have hB3 := hBd.trans (hb3.mono hBd.size); have t0 : w3.cell? ⟨G + 1, 0, none⟩ = some (.int .u8 0) := (by rw [hbt3.cell]; rfl); have t1 : w3.cell? ⟨G + 1, 1, none⟩ = some (.int .u8 0) := (by rw [hbt3.cell]; rfl); have t2 : w3.cell? ⟨G + 1, 2, none⟩ = some (.int .u8 0) := (by rw [hbt3.cell]; rfl); have z0 := hbt3.frozen 0; have z1 := hbt3.frozen 1; have z2 := hbt3.frozen 2; dsimp only))
    all_goals
      go_wp2
      have hsz := hbtd.lt
      obtain ⟨b5, B5, o5⟩ := fin3 x0 x1 x2 hbt3 hB3 (by have := HG.out; omega) ho1 (fun q hq => by have := hv1 q hq; omega)
      obtain ⟨A', c', rfl, hc', hrr⟩ := o5.rd
      refine bodyPost_ret (results_tc' rfl _ _ (G + 1) 23 #[.int .u8 x0, .int .u8 x1, .int .u8 x2] (0, 0) _ rfl b5 Tryd.underlying23 rfl (by kernel_rfl)) rfl ?_
      exact ⟨A', c', rfl, hrr, ⟨B5.os, B5.tape, B5.output, B5.size, B5.block⟩, .inr (fun ad e => by have h1 := hv1 ad.block (by rw [e]; rfl); have h2 := hBd.size; omega)⟩
  · obtain ⟨lb, hlb, hnb⟩ := tri_num3 g hg
    obtain ⟨j, rfl⟩ : ∃ j, m = 2048 + j := ⟨m - 2048, by omega⟩
    have hj : j < 24 := by omega
    have hT := fun A c wx hrx => Turned_any A 3 c lb j wx hlb hrx (by omega) (by omega)
    have hxb : u8s lb = [.int .u8 x0, .int .u8 x1, .int .u8 x2] := by rw [← triC_num3 lb hlb, hnb, hx]
    obtain ⟨y0, y1, y2, hy⟩ := tri_eq (g ^^^ 2 ^ j)
    have hyb : u8s (flipB lb j) = [.int .u8 y0, .int .u8 y1, .int .u8 y2] := by rw [← triC_num3 _ (by rw [flipB_len]; exact hlb), num3_flip lb j hlb hj, hnb, hy]
    rw [hxb] at hT
    rw [hyb] at hT
    rw [show turnG g (2048 + j) = g ^^^ 2 ^ j by unfold turnG; rw [if_neg (by omega), Nat.add_sub_cancel_left], show turnL l (2048 + j) = l from if_neg (by omega)]
    have hty : tri (g ^^^ 2 ^ j) = .agg #[.int .u8 y0, .int .u8 y1, .int .u8 y2] := by unfold tri; rw [hy]
    rw [hty]
    clear hyb hxb hnb hlb hx hy hm hlt
    go_enter Tryd.func16, Tryd.ntmps16
    have d0 : w2.cell? ⟨w.heap.size, 0, none⟩ = some (.int .u8 x0) := by rw [hbg.cell]; rfl
    have d1 : w2.cell? ⟨w.heap.size, 1, none⟩ = some (.int .u8 x1) := by rw [hbg.cell]; rfl
    have d2 : w2.cell? ⟨w.heap.size, 2, none⟩ = some (.int .u8 x2) := by rw [hbg.cell]; rfl
    rw [hw2] at d0 d1 d2
    go_wp2_with fail
    rw [← hw2]
    have hjj : (2048 + (j : Int) - 2048) = (j : Int) := by omega
    have hsz : w.heap.size + 1 + 1 = w2.heap.size := by rw [hw2]; simp
    rw [hjj, hsz]
    obtain ⟨G, hG⟩ : ∃ G, G = w.heap.size := ⟨_, rfl⟩
    rw [← hG] at hbg hbt hsz ⊢
    have HG := Lib.hid hG
    clear hG hw2 d0 d1 d2
    with_reducible refine (hT _ 3 _ (rd_new w2 5 [.int .u8 x0, .int .u8 x1, .int .u8 x2])).mono ?_
    rintro e w3 ⟨v1, sp1, rfl, ho1, hv1, hb3⟩
    have hB3 := (hB.alloc hB.size (.cells #[.int .u8 x0, .int .u8 x1, .int .u8 x2] 5)).trans (hb3.mono (by have := hB.size; simp; omega))
    have hbt3 := (hbt.alloc (.cells #[.int .u8 x0, .int .u8 x1, .int .u8 x2] 5)).frm (ex := fun _ => False) (Frm.of_below hb3) id
    obtain ⟨g1, cp1, rfl, hb1, hl1, hc1, hn1, hm1⟩ := ho1.blk (by omega)
    have hr3 : Rd w3 A (u8s l) := hr.below hB3
    have c0 : w3.cell? ⟨g1, 0, none⟩ = some (.int .u8 y0) := by rw [hb1.cell]; rfl
    have c1 : w3.cell? ⟨g1, 1, none⟩ = some (.int .u8 y1) := by rw [hb1.cell]; rfl
    have c2 : w3.cell? ⟨g1, 2, none⟩ = some (.int .u8 y2) := by rw [hb1.cell]; rfl
    have t0 : w3.cell? ⟨G + 1, 0, none⟩ = some (.int .u8 0) := by rw [hbt3.cell]; rfl
    have t1 : w3.cell? ⟨G + 1, 1, none⟩ = some (.int .u8 0) := by rw [hbt3.cell]; rfl
    have t2 : w3.cell? ⟨G + 1, 2, none⟩ = some (.int .u8 0) := by rw [hbt3.cell]; rfl
    have z0 := hbt3.frozen 0
    have z1 := hbt3.frozen 1
    have z2 := hbt3.frozen 2
    have hg1 : w2.heap.size + 1 ≤ g1 := by have := hv1 g1 rfl; simpa using this
    have hne : g1 ≠ G + 1 := by omega
    clear hb3 hT hB hbg hbt hr2 hr3 ho1 hjj hv1
    go_wp2
    go_region_held3 (fun wx => wx.cell? ⟨g1, 0, none⟩ = some (.int .u8 y0) ∧ wx.cell? ⟨g1, 1, none⟩ = some (.int .u8 y1) ∧ wx.cell? ⟨g1, 2, none⟩ = some (.int .u8 y2)) (first | exact cells3s hb1 | exact cells3s (((hb1.far (p := ⟨G + 1, 0, none⟩) hne _).far (p := ⟨G + 1, 1, none⟩) hne _).far (p := ⟨G + 1, 2, none⟩) hne _).drew | go_keep) (fail)
    all_goals
      go_wp2
      obtain ⟨b5, B5, o5⟩ := fin3 (n := 0) (v1 := .slice none 0 0) (xs := []) (sp := []) y0 y1 y2 hbt3 hB3 (by have := HG.out; omega) (.inl ⟨rfl, rfl, rfl, rfl⟩) (fun q hq => by cases hq)
      refine bodyPost_ret (results_tc' rfl _ _ (G + 1) 23 #[.int .u8 y0, .int .u8 y1, .int .u8 y2] (0, 0) _ rfl b5 Tryd.underlying23 rfl (by kernel_rfl)) rfl ?_
      exact ⟨A, cap, rfl, hr.below ⟨B5.os, B5.tape, B5.output, B5.size, B5.block⟩, ⟨B5.os, B5.tape, B5.output, B5.size, B5.block⟩, .inl rfl⟩
end Go.Proofs.YtafjnkmfebibfaaDoor
