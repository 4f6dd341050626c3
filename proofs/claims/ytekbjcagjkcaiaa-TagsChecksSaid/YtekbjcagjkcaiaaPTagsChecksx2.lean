-- PRINTED BY print.sh 35421559b90ae4d0a3588c463048766b98c2df88dd9212a6774a882060cdf62d: not written by this session
import Derived.Test.YtekbjcagjkcaiaaPTagsChecksx0
namespace Go.Proofs.Ytekbjcagjkcaiaa.PTagsChecks
open Go.RowKit Go.Proofs.YtekbjcagjkcaiaaW.PrintWords Go.Proofs.YtekbjcagjkcaiaaW.PrintLast Go.Proofs.YtekbjcagjkcaiaaW.PrintMore
attribute [local go_sem] max2_int min2_int max_two min_two max_three min_three max_four min_four   -- for this text's walks alone
set_option linter.unusedVariables false
set_option linter.unusedSimpArgs false

/-! ### tags_rule_may: function 9 -/
mutual
def tags_rule_may.l0 : Nat → Bool → List Int → Int → Int → List Int → Int → Int → Int → Int → Bool → Int → Int → Int → Int → Int → Int → Int → Int → Option (Bool)
  | 0, _, _, _, _, _, _, _, _, _, _, _, _, _, _, _, _, _, _ => none
  | k + 1, x5, x9, x10, x11, x116000, x116001, x116002, x116003, x116004, x116005, x117000, x117001, x117002, x117003, x117004, x117005, x117006, x117007 => if x11 < x10 then (if 0 ≤ x11 then (if x11 < (x9.length : Int) then (if x5 = true then (tags_rule_may.l0 k true x9 x10 (wrap64 (x11 + 1)) x116000 x116001 x116002 x116003 x116004 x116005 x117000 x117001 x117002 x117003 x117004 x117005 x117006 x117007) else (tags_rule_may.l0 k ((rd x9 x11) == x117001) x9 x10 (wrap64 (x11 + 1)) x116000 x116001 x116002 x116003 x116004 x116005 x117000 x117001 x117002 x117003 x117004 x117005 x117006 x117007)) else (none)) else (none)) else (if x5 = true then (if x117004 < x116001 then (tags_rule_may.j1 k true x117000 x117001 x117002 x117003 x117004 x117005 x117006 x117007) else (if x117004 > x116002 then (tags_rule_may.j1 k true x117000 x117001 x117002 x117003 x117004 x117005 x117006 x117007) else (if x117005 < 0 then (tags_rule_may.j1 k true x117000 x117001 x117002 x117003 x117004 x117005 x117006 x117007) else (if x117005 > x116003 then (tags_rule_may.j1 k true x117000 x117001 x117002 x117003 x117004 x117005 x117006 x117007) else (if x117006 < x116004 then (tags_rule_may.j1 k true x117000 x117001 x117002 x117003 x117004 x117005 x117006 x117007) else (if x116005 = true then (tags_rule_may.j1 k (decide (x117006 > 0)) x117000 x117001 x117002 x117003 x117004 x117005 x117006 x117007) else (tags_rule_may.j1 k false x117000 x117001 x117002 x117003 x117004 x117005 x117006 x117007))))))) else (tags_rule_may.j1 k true x117000 x117001 x117002 x117003 x117004 x117005 x117006 x117007))
def tags_rule_may.j1 : Nat → Bool → Int → Int → Int → Int → Int → Int → Int → Int → Option (Bool)
  | 0, _, _, _, _, _, _, _, _, _ => none
  | k + 1, x66, x117000, x117001, x117002, x117003, x117004, x117005, x117006, x117007 => if x66 = true then (some false) else (if x117000 = 4 then (if x117005 < x117004 then (some ((x117001 == 4) == (x117005 == (wrap64 (x117004 - 1))))) else (some false)) else (some true))
end
def tags_rule_may.f (k : Nat) (l0_0 : List Int) (a0_1 : Int) (a0_2 : Int) (a0_3 : Int) (a0_4 : Int) (a0_5 : Bool) (a1_0 : Int) (a1_1 : Int) (a1_2 : Int) (a1_3 : Int) (a1_4 : Int) (a1_5 : Int) (a1_6 : Int) (a1_7 : Int) : Option (Bool) := tags_rule_may.l0 k false l0_0 (l0_0.length : Int) 0 l0_0 a0_1 a0_2 a0_3 a0_4 a0_5 a1_0 a1_1 a1_2 a1_3 a1_4 a1_5 a1_6 a1_7
theorem tags_rule_may.mono_l : ∀ k, (∀ y0 y1 y2 y3 y4 y5 y6 y7 y8 y9 y10 y11 y12 y13 y14 y15 y16 y17, LeO (tags_rule_may.l0 k y0 y1 y2 y3 y4 y5 y6 y7 y8 y9 y10 y11 y12 y13 y14 y15 y16 y17) (tags_rule_may.l0 (k + 1) y0 y1 y2 y3 y4 y5 y6 y7 y8 y9 y10 y11 y12 y13 y14 y15 y16 y17)) ∧ (∀ y0 y1 y2 y3 y4 y5 y6 y7 y8, LeO (tags_rule_may.j1 k y0 y1 y2 y3 y4 y5 y6 y7 y8) (tags_rule_may.j1 (k + 1) y0 y1 y2 y3 y4 y5 y6 y7 y8))
  | 0 => ⟨fun _ _ _ _ _ _ _ _ _ _ _ _ _ _ _ _ _ _ r h => by simp [tags_rule_may.l0] at h, fun _ _ _ _ _ _ _ _ _ r h => by simp [tags_rule_may.j1] at h⟩
  | k + 1 => by
    obtain ⟨ih0, ih1⟩ := tags_rule_may.mono_l k
    refine ⟨?_, ?_⟩
    · intro y0 y1 y2 y3 y4 y5 y6 y7 y8 y9 y10 y11 y12 y13 y14 y15 y16 y17
      unfold tags_rule_may.l0
      repeat' first
      | (with_reducible exact ih0 _ _ _ _ _ _ _ _ _ _ _ _ _ _ _ _ _ _)
      | (with_reducible exact ih1 _ _ _ _ _ _ _ _ _)
      | (with_reducible exact LeO.refl _)
      | (with_reducible exact LeO.none _)
      | (with_reducible refine LeO.ite ?_ ?_)
      | (with_reducible refine LeO.bind ?_ (fun _ => ?_))
      | exact ih0 _ _ _ _ _ _ _ _ _ _ _ _ _ _ _ _ _ _
      | exact ih1 _ _ _ _ _ _ _ _ _
      | exact LeO.none _
      | refine LeO.ite ?_ ?_
      | refine LeO.bind ?_ (fun _ => ?_)
    · intro y0 y1 y2 y3 y4 y5 y6 y7 y8
      unfold tags_rule_may.j1
      repeat' first
      | (with_reducible exact ih0 _ _ _ _ _ _ _ _ _ _ _ _ _ _ _ _ _ _)
      | (with_reducible exact ih1 _ _ _ _ _ _ _ _ _)
      | (with_reducible exact LeO.refl _)
      | (with_reducible exact LeO.none _)
      | (with_reducible refine LeO.ite ?_ ?_)
      | (with_reducible refine LeO.bind ?_ (fun _ => ?_))
      | exact ih0 _ _ _ _ _ _ _ _ _ _ _ _ _ _ _ _ _ _
      | exact ih1 _ _ _ _ _ _ _ _ _
      | exact LeO.none _
      | refine LeO.ite ?_ ?_
      | refine LeO.bind ?_ (fun _ => ?_)
theorem tags_rule_may.mono : ∀ a0 a1 a2 a3 a4 a5 a6 a7 a8 a9 a10 a11 a12 a13 k, LeO (tags_rule_may.f k a0 a1 a2 a3 a4 a5 a6 a7 a8 a9 a10 a11 a12 a13) (tags_rule_may.f (k + 1) a0 a1 a2 a3 a4 a5 a6 a7 a8 a9 a10 a11 a12 a13) := by
  intro a0 a1 a2 a3 a4 a5 a6 a7 a8 a9 a10 a11 a12 a13 k
  obtain ⟨ih0, ih1⟩ := tags_rule_may.mono_l k
  unfold tags_rule_may.f
  repeat' first
      | (with_reducible exact ih0 _ _ _ _ _ _ _ _ _ _ _ _ _ _ _ _ _ _)
      | (with_reducible exact ih1 _ _ _ _ _ _ _ _ _)
      | (with_reducible exact LeO.refl _)
      | (with_reducible exact LeO.none _)
      | (with_reducible refine LeO.ite ?_ ?_)
      | (with_reducible refine LeO.bind ?_ (fun _ => ?_))
      | exact ih0 _ _ _ _ _ _ _ _ _ _ _ _ _ _ _ _ _ _
      | exact ih1 _ _ _ _ _ _ _ _ _
      | exact LeO.none _
      | refine LeO.ite ?_ ?_
      | refine LeO.bind ?_ (fun _ => ?_)
set_option maxHeartbeats 8000000 in
set_option maxRecDepth 100000 in
theorem tags_rule_may.calls (k : Nat) (A0_0 : Option Addr) (c0_0 : Nat) (l0_0 : List Int) (a0_1 : Int) (a0_2 : Int) (a0_3 : Int) (a0_4 : Int) (a0_5 : Bool) (a1_0 : Int) (a1_1 : Int) (a1_2 : Int) (a1_3 : Int) (a1_4 : Int) (a1_5 : Int) (a1_6 : Int) (a1_7 : Int) (r : Bool) (w : World) (hr0_0 : Kd.C (Kd.int .i64) w A0_0 l0_0.length l0_0) (hc0_0 : l0_0.length ≤ c0_0) (h : tags_rule_may.f k l0_0 a0_1 a0_2 a0_3 a0_4 a0_5 a1_0 a1_1 a1_2 a1_3 a1_4 a1_5 a1_6 a1_7 = some r) :
    Calls Try.prog 9 #[.agg #[.slice A0_0 l0_0.length c0_0, .int .i64 a0_1, .int .i64 a0_2, .int .i64 a0_3, .int .i64 a0_4, .bool a0_5], .agg #[.int .i64 a1_0, .int .i64 a1_1, .int .u64 a1_2, .int .u64 a1_3, .int .i64 a1_4, .int .i64 a1_5, .int .i64 a1_6, .int .i64 a1_7]] w fun e w' => e = .returned (.bool r) ∧ Below w.heap.size w w' := by
  have hu35 := Try.underlying35
  have hu26 := Try.underlying26
  have HR0_0 := Aside0.mk hr0_0
  have HC0_0 := Aside0.mk hc0_0
  clear hr0_0 hc0_0
  have HB := Aside0.mk (Below.refl w.heap.size w)
  have H : (tags_rule_may.l0 k false l0_0 (l0_0.length : Int) 0 l0_0 a0_1 a0_2 a0_3 a0_4 a0_5 a1_0 a1_1 a1_2 a1_3 a1_4 a1_5 a1_6 a1_7) = some r := h
  clear h
  have H' := Aside0.mk H
  clear H
  go_enter Try.func9, Try.ntmps9
  go_wp2_with (first | ((with_reducible refine gate_dst (N := 2) rfl ?_); refine box_event ?hg (N := 2) ?hd (cs := #[.slice A0_0 l0_0.length c0_0, .int .i64 a0_1, .int .i64 a0_2, .int .i64 a0_3, .int .i64 a0_4, .bool a0_5]) (t := 35) ?hr ?_; (case hd => rfl); (case hg => rfl); (case hr => first | (go_simp; done) | (go_simp; rfl)); intro gb115 hg w3 hbox hb; have n0_ := Aside0.mk (below_step (by repeat (first | (with_reducible first | exact HB.out | apply below_alloc | apply pw_below_drewN | apply below_drew1) | exact HB.out)) hb); have n1_ := Aside0.mk (hbox); have n2_ := Aside0.mk ((by rw [hg]; exact (below_size (by repeat (first | (with_reducible first | exact HB.out | apply below_alloc | apply pw_below_drewN | apply below_drew1) | exact HB.out))) : w.heap.size ≤ gb115)); have n3_ := Aside0.mk ((by rw [hg]; exact (below_size (by repeat (first | (with_reducible first | exact HB.out | apply below_alloc | apply pw_below_drewN | apply below_drew1) | exact HB.out))) : w.heap.size ≤ gb115)); clear HB; have HB := n0_; have BK115 := n1_; have GW115 := n2_; have GE115 := n3_; clear n0_ n1_ n2_ n3_; clear hb hbox hg) | ((with_reducible refine gate_dst (N := 3) rfl ?_); refine box_event ?hg (N := 3) ?hd (cs := #[.int .i64 a1_0, .int .i64 a1_1, .int .u64 a1_2, .int .u64 a1_3, .int .i64 a1_4, .int .i64 a1_5, .int .i64 a1_6, .int .i64 a1_7]) (t := 26) ?hr ?_; (case hd => rfl); (case hg => rfl); (case hr => first | (go_simp; done) | (go_simp; rfl)); intro gb116 hg w4 hbox hb; have n0_ := Aside0.mk (blk_below (g := gb115) (o := .cells #[.slice A0_0 l0_0.length c0_0, .int .i64 a0_1, .int .i64 a0_2, .int .i64 a0_3, .int .i64 a0_4, .bool a0_5] 35 (0, 0)) (by (with_reducible repeat (first | refine blk_drewN ?_ _ | refine blk_drew ?_ | refine blk_alloc ?_ _)); exact BK115.out) hb); have n1_ := Aside0.mk (below_step (by repeat (first | (with_reducible first | exact HB.out | apply below_alloc | apply pw_below_drewN | apply below_drew1 | refine below_set ?_ GE115.out) | exact HB.out)) hb); have n2_ := Aside0.mk (hbox); have n3_ := Aside0.mk ((by rw [hg]; exact (below_size (by repeat (first | (with_reducible first | exact HB.out | apply below_alloc | apply pw_below_drewN | apply below_drew1 | refine below_set ?_ GE115.out) | exact HB.out))) : w.heap.size ≤ gb116)); have n4_ := Aside0.mk ((by rw [hg]; exact (below_size (by repeat (first | (with_reducible first | exact HB.out | apply below_alloc | apply pw_below_drewN | apply below_drew1 | refine below_set ?_ GE115.out) | exact HB.out))) : w.heap.size ≤ gb116)); have n5_ := Aside0.mk ((by rw [hg]; exact Nat.ne_of_lt (blk_lt (g := gb115) (o := .cells #[.slice A0_0 l0_0.length c0_0, .int .i64 a0_1, .int .i64 a0_2, .int .i64 a0_3, .int .i64 a0_4, .bool a0_5] 35 (0, 0)) (by (with_reducible repeat (first | refine blk_drewN ?_ _ | refine blk_drew ?_ | refine blk_alloc ?_ _)); exact BK115.out)) : gb115 ≠ gb116)); have n6_ := Aside0.mk ((by rw [hg]; exact Nat.ne_of_gt (blk_lt (g := gb115) (o := .cells #[.slice A0_0 l0_0.length c0_0, .int .i64 a0_1, .int .i64 a0_2, .int .i64 a0_3, .int .i64 a0_4, .bool a0_5] 35 (0, 0)) (by (with_reducible repeat (first | refine blk_drewN ?_ _ | refine blk_drew ?_ | refine blk_alloc ?_ _)); exact BK115.out)) : gb116 ≠ gb115)); clear BK115; clear HB; have BK115 := n0_; have HB := n1_; have BK116 := n2_; have GW116 := n3_; have GE116 := n4_; have NB115_116 := n5_; have NB116_115 := n6_; clear n0_ n1_ n2_ n3_ n4_ n5_ n6_; clear hb hbox hg; have hnb5 := NB115_116.out; have hnc5 := NB116_115.out; have hcz6_0 : w4.cell? ⟨gb115, 0, none⟩ = some (.slice A0_0 l0_0.length c0_0) := (blk_cell BK115.out 0).trans rfl; have hcz6_1 : w4.cell? ⟨gb115, 1, none⟩ = some (.int .i64 a0_1) := (blk_cell BK115.out 1).trans rfl; have hcz6_2 : w4.cell? ⟨gb115, 2, none⟩ = some (.int .i64 a0_2) := (blk_cell BK115.out 2).trans rfl; have hcz6_3 : w4.cell? ⟨gb115, 3, none⟩ = some (.int .i64 a0_3) := (blk_cell BK115.out 3).trans rfl; have hcz6_4 : w4.cell? ⟨gb115, 4, none⟩ = some (.int .i64 a0_4) := (blk_cell BK115.out 4).trans rfl; have hcz6_5 : w4.cell? ⟨gb115, 5, none⟩ = some (.bool a0_5) := (blk_cell BK115.out 5).trans rfl; have hfz6_0 := blk_frozen BK115.out 0; have hfz6_1 := blk_frozen BK115.out 1; have hfz6_2 := blk_frozen BK115.out 2; have hfz6_3 := blk_frozen BK115.out 3; have hfz6_4 := blk_frozen BK115.out 4; have hfz6_5 := blk_frozen BK115.out 5))
  go_loopg [5, 11] k (fun kq v5 v11 w' => ∃ (x5_1 : Bool) (x11_1 : Int), v5 = .bool x5_1 ∧ v11 = .int .i64 x11_1 ∧ Aside0 (tags_rule_may.l0 kq x5_1 l0_0 (l0_0.length : Int) x11_1 l0_0 a0_1 a0_2 a0_3 a0_4 a0_5 a1_0 a1_1 a1_2 a1_3 a1_4 a1_5 a1_6 a1_7 = some r) ∧ Aside0 (kq ≤ k) ∧ Aside0 (w'.heap[gb115]? = some (.cells #[(.slice A0_0 l0_0.length c0_0), .int .i64 a0_1, .int .i64 a0_2, .int .i64 a0_3, .int .i64 a0_4, .bool a0_5] 35 (0, 0))) ∧ Aside0 (w'.heap[gb116]? = some (.cells #[.int .i64 a1_0, .int .i64 a1_1, .int .u64 a1_2, .int .u64 a1_3, .int .i64 a1_4, .int .i64 a1_5, .int .i64 a1_6, .int .i64 a1_7] 26 (0, 0))) ∧ Aside0 (Below w.heap.size w w'))
  case atStart => exact ⟨(false), (0), (by first | rfl | (simp; done) | (simp [*]; done)), (by first | rfl | (simp; done) | (simp [*]; done)), H', ⟨Nat.le_refl _⟩, ⟨by (with_reducible repeat (first | refine blk_drewN ?_ _ | refine blk_drew ?_ | refine blk_alloc ?_ _)); exact BK115.out⟩, ⟨by (with_reducible repeat (first | refine blk_drewN ?_ _ | refine blk_drew ?_ | refine blk_alloc ?_ _)); exact BK116.out⟩, ⟨by repeat (first | (with_reducible first | exact HB.out | apply below_alloc | apply pw_below_drewN | apply below_drew1 | refine below_set ?_ GE115.out | refine below_set ?_ GE116.out) | exact HB.out)⟩⟩
  case round =>
    clear H'
    try clear p2
    try clear c5
    try clear hcz6_0
    try clear hcz6_1
    try clear hcz6_2
    try clear hcz6_3
    try clear hcz6_4
    try clear hcz6_5
    try clear hfz6_0
    try clear hfz6_1
    try clear hfz6_2
    try clear hfz6_3
    try clear hfz6_4
    try clear hfz6_5
    obtain ⟨x5_1, x11_1, rfl, rfl, HA, HK1, BK115, BK116, HB⟩ := hrel
    cases gk with
    | zero => exact absurd HA.out (by simp [tags_rule_may.l0])
    | succ k1 =>
      have H := HA.out
      clear HA
      simp only [tags_rule_may.l0] at H
      by_cases c7 : x11_1 < (l0_0.length : Int)
      · rw [if_pos c7] at H
        have c7b0 : decide (x11_1 < (l0_0.length : Int)) = true := decide_eq_true c7
        clear c7
        by_cases c8 : 0 ≤ x11_1
        · rw [if_pos c8] at H
          have c8b0 : decide (0 ≤ x11_1) = true := decide_eq_true c8
          clear c8
          by_cases c9 : x11_1 < (l0_0.length : Int)
          · rw [if_pos c9] at H
            have c9b0 : decide (x11_1 < (l0_0.length : Int)) = true := decide_eq_true c9
            clear c9
            by_cases c10 : x5_1 = true
            · subst c10
              have H1 : (tags_rule_may.l0 k1 true l0_0 (l0_0.length : Int) (wrap64 (x11_1 + 1)) l0_0 a0_1 a0_2 a0_3 a0_4 a0_5 a1_0 a1_1 a1_2 a1_3 a1_4 a1_5 a1_6 a1_7) = some r := by rw [if_pos rfl] at H; exact H
              clear H
              have H := H1
              clear H1
              have H' := Aside0.mk H
              clear H
              have p117 : 0 ≤ (x11_1 : Int) := of_decide_eq_true (by first | (with_reducible assumption) | assumption)
              have q117 : x11_1 < (l0_0.length : Int) := of_decide_eq_true (by first | (with_reducible assumption) | assumption)
              obtain ⟨ad117, e117, hx117_0⟩ := Kd.at_int HR0_0.out x11_1 p117 q117
              cases e117
              replace hx117_0 := (HB.out.cell (World.block_lt_of_cell? w _ hx117_0)).trans hx117_0
              replace p117 := eq_true p117
              replace q117 := eq_true q117
              go_wp2
              go_roundg k1
              case measure => have := HK1.out; omega
              case rel => exact ⟨(true), (wrap64 (x11_1 + 1)), (by first | rfl | (simp; done) | (simp [*]; done)), (by first | rfl | (simp; done) | (simp [*]; done)), H', ⟨by have := HK1.out; omega⟩, ⟨by (with_reducible repeat (first | refine blk_drewN ?_ _ | refine blk_drew ?_ | refine blk_alloc ?_ _)); exact BK115.out⟩, ⟨by (with_reducible repeat (first | refine blk_drewN ?_ _ | refine blk_drew ?_ | refine blk_alloc ?_ _)); exact BK116.out⟩, ⟨by repeat (first | (with_reducible first | exact HB.out | apply below_alloc | apply pw_below_drewN | apply below_drew1 | refine below_set ?_ GE115.out | refine below_set ?_ GE116.out) | exact HB.out)⟩⟩
            · replace c10 := Bool.eq_false_iff.mpr c10
              subst c10
              have H1 : (tags_rule_may.l0 k1 ((rd l0_0 x11_1) == a1_1) l0_0 (l0_0.length : Int) (wrap64 (x11_1 + 1)) l0_0 a0_1 a0_2 a0_3 a0_4 a0_5 a1_0 a1_1 a1_2 a1_3 a1_4 a1_5 a1_6 a1_7) = some r := by rw [if_neg (show ¬ (false = true) by decide)] at H; exact H
              clear H
              have H := H1
              clear H1
              have H' := Aside0.mk H
              clear H
              have p117 : 0 ≤ (x11_1 : Int) := of_decide_eq_true (by first | (with_reducible assumption) | assumption)
              have q117 : x11_1 < (l0_0.length : Int) := of_decide_eq_true (by first | (with_reducible assumption) | assumption)
              obtain ⟨ad117, e117, hx117_0⟩ := Kd.at_int HR0_0.out x11_1 p117 q117
              cases e117
              replace hx117_0 := (HB.out.cell (World.block_lt_of_cell? w _ hx117_0)).trans hx117_0
              replace p117 := eq_true p117
              replace q117 := eq_true q117
              have hnb11 := NB116_115.out
              have hnc11 := NB115_116.out
              have hcz12_0 : wr.cell? ⟨gb116, 0, none⟩ = some (.int .i64 a1_0) := (blk_cell BK116.out 0).trans rfl
              have hcz12_1 : wr.cell? ⟨gb116, 1, none⟩ = some (.int .i64 a1_1) := (blk_cell BK116.out 1).trans rfl
              have hcz12_2 : wr.cell? ⟨gb116, 2, none⟩ = some (.int .u64 a1_2) := (blk_cell BK116.out 2).trans rfl
              have hcz12_3 : wr.cell? ⟨gb116, 3, none⟩ = some (.int .u64 a1_3) := (blk_cell BK116.out 3).trans rfl
              have hcz12_4 : wr.cell? ⟨gb116, 4, none⟩ = some (.int .i64 a1_4) := (blk_cell BK116.out 4).trans rfl
              have hcz12_5 : wr.cell? ⟨gb116, 5, none⟩ = some (.int .i64 a1_5) := (blk_cell BK116.out 5).trans rfl
              have hcz12_6 : wr.cell? ⟨gb116, 6, none⟩ = some (.int .i64 a1_6) := (blk_cell BK116.out 6).trans rfl
              have hcz12_7 : wr.cell? ⟨gb116, 7, none⟩ = some (.int .i64 a1_7) := (blk_cell BK116.out 7).trans rfl
              have hfz12_0 := blk_frozen BK116.out 0
              have hfz12_1 := blk_frozen BK116.out 1
              have hfz12_2 := blk_frozen BK116.out 2
              have hfz12_3 := blk_frozen BK116.out 3
              have hfz12_4 := blk_frozen BK116.out 4
              have hfz12_5 := blk_frozen BK116.out 5
              have hfz12_6 := blk_frozen BK116.out 6
              have hfz12_7 := blk_frozen BK116.out 7
              go_wp2
              go_roundg k1
              case measure => have := HK1.out; omega
              case rel => exact ⟨(((rd l0_0 x11_1) == a1_1)), (wrap64 (x11_1 + 1)), (by first | rfl | (simp; done) | (simp [*]; done)), (by first | rfl | (simp; done) | (simp [*]; done)), H', ⟨by have := HK1.out; omega⟩, ⟨by (with_reducible repeat (first | refine blk_drewN ?_ _ | refine blk_drew ?_ | refine blk_alloc ?_ _)); exact BK115.out⟩, ⟨by (with_reducible repeat (first | refine blk_drewN ?_ _ | refine blk_drew ?_ | refine blk_alloc ?_ _)); exact BK116.out⟩, ⟨by repeat (first | (with_reducible first | exact HB.out | apply below_alloc | apply pw_below_drewN | apply below_drew1 | refine below_set ?_ GE115.out | refine below_set ?_ GE116.out) | exact HB.out)⟩⟩
          · rw [if_neg c9] at H
            exact absurd H (by simp)
        · rw [if_neg c8] at H
          exact absurd H (by simp)
      · rw [if_neg c7] at H
        have c7b0 : decide (x11_1 < (l0_0.length : Int)) = false := decide_eq_false c7
        clear c7
        have HC13 := Aside0.mk H
        clear H
        go_upto_region 7 with (fail)
        go_cut [66] (fun v66 wc => ∃ (kq : Nat) (x66_12 : Bool), v66 = .bool x66_12 ∧ Aside0 (tags_rule_may.j1 kq x66_12 a1_0 a1_1 a1_2 a1_3 a1_4 a1_5 a1_6 a1_7 = some r) ∧ Aside0 (kq ≤ k1) ∧ Aside0 (wc.heap[gb115]? = some (.cells #[(.slice A0_0 l0_0.length c0_0), .int .i64 a0_1, .int .i64 a0_2, .int .i64 a0_3, .int .i64 a0_4, .bool a0_5] 35 (0, 0))) ∧ Aside0 (wc.heap[gb116]? = some (.cells #[.int .i64 a1_0, .int .i64 a1_1, .int .u64 a1_2, .int .u64 a1_3, .int .i64 a1_4, .int .i64 a1_5, .int .i64 a1_6, .int .i64 a1_7] 26 (0, 0))) ∧ Aside0 (Below w.heap.size w wc))
        case first =>
          have H := HC13.out
          clear HC13
          by_cases c14 : x5_1 = true
          · subst c14
            have H1 : (if a1_4 < a0_1 then (tags_rule_may.j1 k1 true a1_0 a1_1 a1_2 a1_3 a1_4 a1_5 a1_6 a1_7) else (if a1_4 > a0_2 then (tags_rule_may.j1 k1 true a1_0 a1_1 a1_2 a1_3 a1_4 a1_5 a1_6 a1_7) else (if a1_5 < 0 then (tags_rule_may.j1 k1 true a1_0 a1_1 a1_2 a1_3 a1_4 a1_5 a1_6 a1_7) else (if a1_5 > a0_3 then (tags_rule_may.j1 k1 true a1_0 a1_1 a1_2 a1_3 a1_4 a1_5 a1_6 a1_7) else (if a1_6 < a0_4 then (tags_rule_may.j1 k1 true a1_0 a1_1 a1_2 a1_3 a1_4 a1_5 a1_6 a1_7) else (if a0_5 = true then (tags_rule_may.j1 k1 (decide (a1_6 > 0)) a1_0 a1_1 a1_2 a1_3 a1_4 a1_5 a1_6 a1_7) else (tags_rule_may.j1 k1 false a1_0 a1_1 a1_2 a1_3 a1_4 a1_5 a1_6 a1_7))))))) = some r := by rw [if_pos rfl] at H; exact H
            clear H
            have H := H1
            clear H1
            by_cases c15 : a1_4 < a0_1
            · rw [if_pos c15] at H
              have c15b0 : decide (a1_4 < a0_1) = true := decide_eq_true c15
              clear c15
              (first | rw [c15b0] | (simp only [i64_w, i32_w]; rw [c15b0]) | skip)
              have H' := Aside0.mk H
              clear H
              have hnb16 := NB116_115.out
              have hnc16 := NB115_116.out
              have hcz17_0 : wr.cell? ⟨gb116, 0, none⟩ = some (.int .i64 a1_0) := (blk_cell BK116.out 0).trans rfl
              have hcz17_1 : wr.cell? ⟨gb116, 1, none⟩ = some (.int .i64 a1_1) := (blk_cell BK116.out 1).trans rfl
              have hcz17_2 : wr.cell? ⟨gb116, 2, none⟩ = some (.int .u64 a1_2) := (blk_cell BK116.out 2).trans rfl
              have hcz17_3 : wr.cell? ⟨gb116, 3, none⟩ = some (.int .u64 a1_3) := (blk_cell BK116.out 3).trans rfl
              have hcz17_4 : wr.cell? ⟨gb116, 4, none⟩ = some (.int .i64 a1_4) := (blk_cell BK116.out 4).trans rfl
              have hcz17_5 : wr.cell? ⟨gb116, 5, none⟩ = some (.int .i64 a1_5) := (blk_cell BK116.out 5).trans rfl
              have hcz17_6 : wr.cell? ⟨gb116, 6, none⟩ = some (.int .i64 a1_6) := (blk_cell BK116.out 6).trans rfl
              have hcz17_7 : wr.cell? ⟨gb116, 7, none⟩ = some (.int .i64 a1_7) := (blk_cell BK116.out 7).trans rfl
              have hfz17_0 := blk_frozen BK116.out 0
              have hfz17_1 := blk_frozen BK116.out 1
              have hfz17_2 := blk_frozen BK116.out 2
              have hfz17_3 := blk_frozen BK116.out 3
              have hfz17_4 := blk_frozen BK116.out 4
              have hfz17_5 := blk_frozen BK116.out 5
              have hfz17_6 := blk_frozen BK116.out 6
              have hfz17_7 := blk_frozen BK116.out 7
              have hcz18_0 : wr.cell? ⟨gb115, 0, none⟩ = some (.slice A0_0 l0_0.length c0_0) := (blk_cell BK115.out 0).trans rfl
              have hcz18_1 : wr.cell? ⟨gb115, 1, none⟩ = some (.int .i64 a0_1) := (blk_cell BK115.out 1).trans rfl
              have hcz18_2 : wr.cell? ⟨gb115, 2, none⟩ = some (.int .i64 a0_2) := (blk_cell BK115.out 2).trans rfl
              have hcz18_3 : wr.cell? ⟨gb115, 3, none⟩ = some (.int .i64 a0_3) := (blk_cell BK115.out 3).trans rfl
              have hcz18_4 : wr.cell? ⟨gb115, 4, none⟩ = some (.int .i64 a0_4) := (blk_cell BK115.out 4).trans rfl
              have hcz18_5 : wr.cell? ⟨gb115, 5, none⟩ = some (.bool a0_5) := (blk_cell BK115.out 5).trans rfl
              have hfz18_0 := blk_frozen BK115.out 0
              have hfz18_1 := blk_frozen BK115.out 1
              have hfz18_2 := blk_frozen BK115.out 2
              have hfz18_3 := blk_frozen BK115.out 3
              have hfz18_4 := blk_frozen BK115.out 4
              have hfz18_5 := blk_frozen BK115.out 5
              go_wp2
              go_meet
              case rel => exact ⟨_, (true), (by first | rfl | (simp; done) | (simp [*]; done)), H', ⟨by have := HK1.out; first | omega | exact Nat.le_refl _⟩, ⟨by (with_reducible repeat (first | refine blk_drewN ?_ _ | refine blk_drew ?_ | refine blk_alloc ?_ _)); exact BK115.out⟩, ⟨by (with_reducible repeat (first | refine blk_drewN ?_ _ | refine blk_drew ?_ | refine blk_alloc ?_ _)); exact BK116.out⟩, ⟨by repeat (first | (with_reducible first | exact HB.out | apply below_alloc | apply pw_below_drewN | apply below_drew1 | refine below_set ?_ GE115.out | refine below_set ?_ GE116.out) | exact HB.out)⟩⟩
            · rw [if_neg c15] at H
              have c15b0 : decide (a1_4 < a0_1) = false := decide_eq_false c15
              clear c15
              (first | rw [c15b0] | (simp only [i64_w, i32_w]; rw [c15b0]) | skip)
              by_cases c19 : a1_4 > a0_2
              · rw [if_pos c19] at H
                have c19b0 : decide (a0_2 < a1_4) = true := decide_eq_true c19
                clear c19
                have H' := Aside0.mk H
                clear H
                have hnb20 := NB116_115.out
                have hnc20 := NB115_116.out
                have hcz21_0 : wr.cell? ⟨gb116, 0, none⟩ = some (.int .i64 a1_0) := (blk_cell BK116.out 0).trans rfl
                have hcz21_1 : wr.cell? ⟨gb116, 1, none⟩ = some (.int .i64 a1_1) := (blk_cell BK116.out 1).trans rfl
                have hcz21_2 : wr.cell? ⟨gb116, 2, none⟩ = some (.int .u64 a1_2) := (blk_cell BK116.out 2).trans rfl
                have hcz21_3 : wr.cell? ⟨gb116, 3, none⟩ = some (.int .u64 a1_3) := (blk_cell BK116.out 3).trans rfl
                have hcz21_4 : wr.cell? ⟨gb116, 4, none⟩ = some (.int .i64 a1_4) := (blk_cell BK116.out 4).trans rfl
                have hcz21_5 : wr.cell? ⟨gb116, 5, none⟩ = some (.int .i64 a1_5) := (blk_cell BK116.out 5).trans rfl
                have hcz21_6 : wr.cell? ⟨gb116, 6, none⟩ = some (.int .i64 a1_6) := (blk_cell BK116.out 6).trans rfl
                have hcz21_7 : wr.cell? ⟨gb116, 7, none⟩ = some (.int .i64 a1_7) := (blk_cell BK116.out 7).trans rfl
                have hfz21_0 := blk_frozen BK116.out 0
                have hfz21_1 := blk_frozen BK116.out 1
                have hfz21_2 := blk_frozen BK116.out 2
                have hfz21_3 := blk_frozen BK116.out 3
                have hfz21_4 := blk_frozen BK116.out 4
                have hfz21_5 := blk_frozen BK116.out 5
                have hfz21_6 := blk_frozen BK116.out 6
                have hfz21_7 := blk_frozen BK116.out 7
                have hcz22_0 : wr.cell? ⟨gb115, 0, none⟩ = some (.slice A0_0 l0_0.length c0_0) := (blk_cell BK115.out 0).trans rfl
                have hcz22_1 : wr.cell? ⟨gb115, 1, none⟩ = some (.int .i64 a0_1) := (blk_cell BK115.out 1).trans rfl
                have hcz22_2 : wr.cell? ⟨gb115, 2, none⟩ = some (.int .i64 a0_2) := (blk_cell BK115.out 2).trans rfl
                have hcz22_3 : wr.cell? ⟨gb115, 3, none⟩ = some (.int .i64 a0_3) := (blk_cell BK115.out 3).trans rfl
                have hcz22_4 : wr.cell? ⟨gb115, 4, none⟩ = some (.int .i64 a0_4) := (blk_cell BK115.out 4).trans rfl
                have hcz22_5 : wr.cell? ⟨gb115, 5, none⟩ = some (.bool a0_5) := (blk_cell BK115.out 5).trans rfl
                have hfz22_0 := blk_frozen BK115.out 0
                have hfz22_1 := blk_frozen BK115.out 1
                have hfz22_2 := blk_frozen BK115.out 2
                have hfz22_3 := blk_frozen BK115.out 3
                have hfz22_4 := blk_frozen BK115.out 4
                have hfz22_5 := blk_frozen BK115.out 5
                go_wp2
                go_meet
                case rel => exact ⟨_, (true), (by first | rfl | (simp; done) | (simp [*]; done)), H', ⟨by have := HK1.out; first | omega | exact Nat.le_refl _⟩, ⟨by (with_reducible repeat (first | refine blk_drewN ?_ _ | refine blk_drew ?_ | refine blk_alloc ?_ _)); exact BK115.out⟩, ⟨by (with_reducible repeat (first | refine blk_drewN ?_ _ | refine blk_drew ?_ | refine blk_alloc ?_ _)); exact BK116.out⟩, ⟨by repeat (first | (with_reducible first | exact HB.out | apply below_alloc | apply pw_below_drewN | apply below_drew1 | refine below_set ?_ GE115.out | refine below_set ?_ GE116.out) | exact HB.out)⟩⟩
              · rw [if_neg c19] at H
                have c19b0 : decide (a0_2 < a1_4) = false := decide_eq_false c19
                clear c19
                by_cases c23 : a1_5 < 0
                · rw [if_pos c23] at H
                  have c23b0 : decide (a1_5 < 0) = true := decide_eq_true c23
                  clear c23
                  have H' := Aside0.mk H
                  clear H
                  have hnb24 := NB116_115.out
                  have hnc24 := NB115_116.out
                  have hcz25_0 : wr.cell? ⟨gb116, 0, none⟩ = some (.int .i64 a1_0) := (blk_cell BK116.out 0).trans rfl
                  have hcz25_1 : wr.cell? ⟨gb116, 1, none⟩ = some (.int .i64 a1_1) := (blk_cell BK116.out 1).trans rfl
                  have hcz25_2 : wr.cell? ⟨gb116, 2, none⟩ = some (.int .u64 a1_2) := (blk_cell BK116.out 2).trans rfl
                  have hcz25_3 : wr.cell? ⟨gb116, 3, none⟩ = some (.int .u64 a1_3) := (blk_cell BK116.out 3).trans rfl
                  have hcz25_4 : wr.cell? ⟨gb116, 4, none⟩ = some (.int .i64 a1_4) := (blk_cell BK116.out 4).trans rfl
                  have hcz25_5 : wr.cell? ⟨gb116, 5, none⟩ = some (.int .i64 a1_5) := (blk_cell BK116.out 5).trans rfl
                  have hcz25_6 : wr.cell? ⟨gb116, 6, none⟩ = some (.int .i64 a1_6) := (blk_cell BK116.out 6).trans rfl
                  have hcz25_7 : wr.cell? ⟨gb116, 7, none⟩ = some (.int .i64 a1_7) := (blk_cell BK116.out 7).trans rfl
                  have hfz25_0 := blk_frozen BK116.out 0
                  have hfz25_1 := blk_frozen BK116.out 1
                  have hfz25_2 := blk_frozen BK116.out 2
                  have hfz25_3 := blk_frozen BK116.out 3
                  have hfz25_4 := blk_frozen BK116.out 4
                  have hfz25_5 := blk_frozen BK116.out 5
                  have hfz25_6 := blk_frozen BK116.out 6
                  have hfz25_7 := blk_frozen BK116.out 7
                  have hcz26_0 : wr.cell? ⟨gb115, 0, none⟩ = some (.slice A0_0 l0_0.length c0_0) := (blk_cell BK115.out 0).trans rfl
                  have hcz26_1 : wr.cell? ⟨gb115, 1, none⟩ = some (.int .i64 a0_1) := (blk_cell BK115.out 1).trans rfl
                  have hcz26_2 : wr.cell? ⟨gb115, 2, none⟩ = some (.int .i64 a0_2) := (blk_cell BK115.out 2).trans rfl
                  have hcz26_3 : wr.cell? ⟨gb115, 3, none⟩ = some (.int .i64 a0_3) := (blk_cell BK115.out 3).trans rfl
                  have hcz26_4 : wr.cell? ⟨gb115, 4, none⟩ = some (.int .i64 a0_4) := (blk_cell BK115.out 4).trans rfl
                  have hcz26_5 : wr.cell? ⟨gb115, 5, none⟩ = some (.bool a0_5) := (blk_cell BK115.out 5).trans rfl
                  have hfz26_0 := blk_frozen BK115.out 0
                  have hfz26_1 := blk_frozen BK115.out 1
                  have hfz26_2 := blk_frozen BK115.out 2
                  have hfz26_3 := blk_frozen BK115.out 3
                  have hfz26_4 := blk_frozen BK115.out 4
                  have hfz26_5 := blk_frozen BK115.out 5
                  go_wp2
                  go_meet
                  case rel => exact ⟨_, (true), (by first | rfl | (simp; done) | (simp [*]; done)), H', ⟨by have := HK1.out; first | omega | exact Nat.le_refl _⟩, ⟨by (with_reducible repeat (first | refine blk_drewN ?_ _ | refine blk_drew ?_ | refine blk_alloc ?_ _)); exact BK115.out⟩, ⟨by (with_reducible repeat (first | refine blk_drewN ?_ _ | refine blk_drew ?_ | refine blk_alloc ?_ _)); exact BK116.out⟩, ⟨by repeat (first | (with_reducible first | exact HB.out | apply below_alloc | apply pw_below_drewN | apply below_drew1 | refine below_set ?_ GE115.out | refine below_set ?_ GE116.out) | exact HB.out)⟩⟩
                · rw [if_neg c23] at H
                  have c23b0 : decide (a1_5 < 0) = false := decide_eq_false c23
                  clear c23
                  by_cases c27 : a1_5 > a0_3
                  · rw [if_pos c27] at H
                    have c27b0 : decide (a0_3 < a1_5) = true := decide_eq_true c27
                    clear c27
                    have H' := Aside0.mk H
                    clear H
                    have hnb28 := NB116_115.out
                    have hnc28 := NB115_116.out
                    have hcz29_0 : wr.cell? ⟨gb116, 0, none⟩ = some (.int .i64 a1_0) := (blk_cell BK116.out 0).trans rfl
                    have hcz29_1 : wr.cell? ⟨gb116, 1, none⟩ = some (.int .i64 a1_1) := (blk_cell BK116.out 1).trans rfl
                    have hcz29_2 : wr.cell? ⟨gb116, 2, none⟩ = some (.int .u64 a1_2) := (blk_cell BK116.out 2).trans rfl
                    have hcz29_3 : wr.cell? ⟨gb116, 3, none⟩ = some (.int .u64 a1_3) := (blk_cell BK116.out 3).trans rfl
                    have hcz29_4 : wr.cell? ⟨gb116, 4, none⟩ = some (.int .i64 a1_4) := (blk_cell BK116.out 4).trans rfl
                    have hcz29_5 : wr.cell? ⟨gb116, 5, none⟩ = some (.int .i64 a1_5) := (blk_cell BK116.out 5).trans rfl
                    have hcz29_6 : wr.cell? ⟨gb116, 6, none⟩ = some (.int .i64 a1_6) := (blk_cell BK116.out 6).trans rfl
                    have hcz29_7 : wr.cell? ⟨gb116, 7, none⟩ = some (.int .i64 a1_7) := (blk_cell BK116.out 7).trans rfl
                    have hfz29_0 := blk_frozen BK116.out 0
                    have hfz29_1 := blk_frozen BK116.out 1
                    have hfz29_2 := blk_frozen BK116.out 2
                    have hfz29_3 := blk_frozen BK116.out 3
                    have hfz29_4 := blk_frozen BK116.out 4
                    have hfz29_5 := blk_frozen BK116.out 5
                    have hfz29_6 := blk_frozen BK116.out 6
                    have hfz29_7 := blk_frozen BK116.out 7
                    have hcz30_0 : wr.cell? ⟨gb115, 0, none⟩ = some (.slice A0_0 l0_0.length c0_0) := (blk_cell BK115.out 0).trans rfl
                    have hcz30_1 : wr.cell? ⟨gb115, 1, none⟩ = some (.int .i64 a0_1) := (blk_cell BK115.out 1).trans rfl
                    have hcz30_2 : wr.cell? ⟨gb115, 2, none⟩ = some (.int .i64 a0_2) := (blk_cell BK115.out 2).trans rfl
                    have hcz30_3 : wr.cell? ⟨gb115, 3, none⟩ = some (.int .i64 a0_3) := (blk_cell BK115.out 3).trans rfl
                    have hcz30_4 : wr.cell? ⟨gb115, 4, none⟩ = some (.int .i64 a0_4) := (blk_cell BK115.out 4).trans rfl
                    have hcz30_5 : wr.cell? ⟨gb115, 5, none⟩ = some (.bool a0_5) := (blk_cell BK115.out 5).trans rfl
                    have hfz30_0 := blk_frozen BK115.out 0
                    have hfz30_1 := blk_frozen BK115.out 1
                    have hfz30_2 := blk_frozen BK115.out 2
                    have hfz30_3 := blk_frozen BK115.out 3
                    have hfz30_4 := blk_frozen BK115.out 4
                    have hfz30_5 := blk_frozen BK115.out 5
                    go_wp2
                    go_meet
                    case rel => exact ⟨_, (true), (by first | rfl | (simp; done) | (simp [*]; done)), H', ⟨by have := HK1.out; first | omega | exact Nat.le_refl _⟩, ⟨by (with_reducible repeat (first | refine blk_drewN ?_ _ | refine blk_drew ?_ | refine blk_alloc ?_ _)); exact BK115.out⟩, ⟨by (with_reducible repeat (first | refine blk_drewN ?_ _ | refine blk_drew ?_ | refine blk_alloc ?_ _)); exact BK116.out⟩, ⟨by repeat (first | (with_reducible first | exact HB.out | apply below_alloc | apply pw_below_drewN | apply below_drew1 | refine below_set ?_ GE115.out | refine below_set ?_ GE116.out) | exact HB.out)⟩⟩
                  · rw [if_neg c27] at H
                    have c27b0 : decide (a0_3 < a1_5) = false := decide_eq_false c27
                    clear c27
                    by_cases c31 : a1_6 < a0_4
                    · rw [if_pos c31] at H
                      have c31b0 : decide (a1_6 < a0_4) = true := decide_eq_true c31
                      clear c31
                      have H' := Aside0.mk H
                      clear H
                      have hnb32 := NB116_115.out
                      have hnc32 := NB115_116.out
                      have hcz33_0 : wr.cell? ⟨gb116, 0, none⟩ = some (.int .i64 a1_0) := (blk_cell BK116.out 0).trans rfl
                      have hcz33_1 : wr.cell? ⟨gb116, 1, none⟩ = some (.int .i64 a1_1) := (blk_cell BK116.out 1).trans rfl
                      have hcz33_2 : wr.cell? ⟨gb116, 2, none⟩ = some (.int .u64 a1_2) := (blk_cell BK116.out 2).trans rfl
                      have hcz33_3 : wr.cell? ⟨gb116, 3, none⟩ = some (.int .u64 a1_3) := (blk_cell BK116.out 3).trans rfl
                      have hcz33_4 : wr.cell? ⟨gb116, 4, none⟩ = some (.int .i64 a1_4) := (blk_cell BK116.out 4).trans rfl
                      have hcz33_5 : wr.cell? ⟨gb116, 5, none⟩ = some (.int .i64 a1_5) := (blk_cell BK116.out 5).trans rfl
                      have hcz33_6 : wr.cell? ⟨gb116, 6, none⟩ = some (.int .i64 a1_6) := (blk_cell BK116.out 6).trans rfl
                      have hcz33_7 : wr.cell? ⟨gb116, 7, none⟩ = some (.int .i64 a1_7) := (blk_cell BK116.out 7).trans rfl
                      have hfz33_0 := blk_frozen BK116.out 0
                      have hfz33_1 := blk_frozen BK116.out 1
                      have hfz33_2 := blk_frozen BK116.out 2
                      have hfz33_3 := blk_frozen BK116.out 3
                      have hfz33_4 := blk_frozen BK116.out 4
                      have hfz33_5 := blk_frozen BK116.out 5
                      have hfz33_6 := blk_frozen BK116.out 6
                      have hfz33_7 := blk_frozen BK116.out 7
                      have hcz34_0 : wr.cell? ⟨gb115, 0, none⟩ = some (.slice A0_0 l0_0.length c0_0) := (blk_cell BK115.out 0).trans rfl
                      have hcz34_1 : wr.cell? ⟨gb115, 1, none⟩ = some (.int .i64 a0_1) := (blk_cell BK115.out 1).trans rfl
                      have hcz34_2 : wr.cell? ⟨gb115, 2, none⟩ = some (.int .i64 a0_2) := (blk_cell BK115.out 2).trans rfl
                      have hcz34_3 : wr.cell? ⟨gb115, 3, none⟩ = some (.int .i64 a0_3) := (blk_cell BK115.out 3).trans rfl
                      have hcz34_4 : wr.cell? ⟨gb115, 4, none⟩ = some (.int .i64 a0_4) := (blk_cell BK115.out 4).trans rfl
                      have hcz34_5 : wr.cell? ⟨gb115, 5, none⟩ = some (.bool a0_5) := (blk_cell BK115.out 5).trans rfl
                      have hfz34_0 := blk_frozen BK115.out 0
                      have hfz34_1 := blk_frozen BK115.out 1
                      have hfz34_2 := blk_frozen BK115.out 2
                      have hfz34_3 := blk_frozen BK115.out 3
                      have hfz34_4 := blk_frozen BK115.out 4
                      have hfz34_5 := blk_frozen BK115.out 5
                      go_wp2
                      go_meet
                      case rel => exact ⟨_, (true), (by first | rfl | (simp; done) | (simp [*]; done)), H', ⟨by have := HK1.out; first | omega | exact Nat.le_refl _⟩, ⟨by (with_reducible repeat (first | refine blk_drewN ?_ _ | refine blk_drew ?_ | refine blk_alloc ?_ _)); exact BK115.out⟩, ⟨by (with_reducible repeat (first | refine blk_drewN ?_ _ | refine blk_drew ?_ | refine blk_alloc ?_ _)); exact BK116.out⟩, ⟨by repeat (first | (with_reducible first | exact HB.out | apply below_alloc | apply pw_below_drewN | apply below_drew1 | refine below_set ?_ GE115.out | refine below_set ?_ GE116.out) | exact HB.out)⟩⟩
                    · rw [if_neg c31] at H
                      have c31b0 : decide (a1_6 < a0_4) = false := decide_eq_false c31
                      clear c31
                      by_cases c35 : a0_5 = true
                      · subst c35
                        have H1 : (tags_rule_may.j1 k1 (decide (a1_6 > 0)) a1_0 a1_1 a1_2 a1_3 a1_4 a1_5 a1_6 a1_7) = some r := by rw [if_pos rfl] at H; exact H
                        clear H
                        have H := H1
                        clear H1
                        have H' := Aside0.mk H
                        clear H
                        have hnb36 := NB116_115.out
                        have hnc36 := NB115_116.out
                        have hcz37_0 : wr.cell? ⟨gb116, 0, none⟩ = some (.int .i64 a1_0) := (blk_cell BK116.out 0).trans rfl
                        have hcz37_1 : wr.cell? ⟨gb116, 1, none⟩ = some (.int .i64 a1_1) := (blk_cell BK116.out 1).trans rfl
                        have hcz37_2 : wr.cell? ⟨gb116, 2, none⟩ = some (.int .u64 a1_2) := (blk_cell BK116.out 2).trans rfl
                        have hcz37_3 : wr.cell? ⟨gb116, 3, none⟩ = some (.int .u64 a1_3) := (blk_cell BK116.out 3).trans rfl
                        have hcz37_4 : wr.cell? ⟨gb116, 4, none⟩ = some (.int .i64 a1_4) := (blk_cell BK116.out 4).trans rfl
                        have hcz37_5 : wr.cell? ⟨gb116, 5, none⟩ = some (.int .i64 a1_5) := (blk_cell BK116.out 5).trans rfl
                        have hcz37_6 : wr.cell? ⟨gb116, 6, none⟩ = some (.int .i64 a1_6) := (blk_cell BK116.out 6).trans rfl
                        have hcz37_7 : wr.cell? ⟨gb116, 7, none⟩ = some (.int .i64 a1_7) := (blk_cell BK116.out 7).trans rfl
                        have hfz37_0 := blk_frozen BK116.out 0
                        have hfz37_1 := blk_frozen BK116.out 1
                        have hfz37_2 := blk_frozen BK116.out 2
                        have hfz37_3 := blk_frozen BK116.out 3
                        have hfz37_4 := blk_frozen BK116.out 4
                        have hfz37_5 := blk_frozen BK116.out 5
                        have hfz37_6 := blk_frozen BK116.out 6
                        have hfz37_7 := blk_frozen BK116.out 7
                        have hcz38_0 : wr.cell? ⟨gb115, 0, none⟩ = some (.slice A0_0 l0_0.length c0_0) := (blk_cell BK115.out 0).trans rfl
                        have hcz38_1 : wr.cell? ⟨gb115, 1, none⟩ = some (.int .i64 a0_1) := (blk_cell BK115.out 1).trans rfl
                        have hcz38_2 : wr.cell? ⟨gb115, 2, none⟩ = some (.int .i64 a0_2) := (blk_cell BK115.out 2).trans rfl
                        have hcz38_3 : wr.cell? ⟨gb115, 3, none⟩ = some (.int .i64 a0_3) := (blk_cell BK115.out 3).trans rfl
                        have hcz38_4 : wr.cell? ⟨gb115, 4, none⟩ = some (.int .i64 a0_4) := (blk_cell BK115.out 4).trans rfl
                        have hcz38_5 : wr.cell? ⟨gb115, 5, none⟩ = some (.bool true) := (blk_cell BK115.out 5).trans rfl
                        have hfz38_0 := blk_frozen BK115.out 0
                        have hfz38_1 := blk_frozen BK115.out 1
                        have hfz38_2 := blk_frozen BK115.out 2
                        have hfz38_3 := blk_frozen BK115.out 3
                        have hfz38_4 := blk_frozen BK115.out 4
                        have hfz38_5 := blk_frozen BK115.out 5
                        go_wp2
                        go_meet
                        case rel => exact ⟨_, (decide (a1_6 > 0)), (by first | rfl | (simp; done) | (simp [*]; done)), H', ⟨by have := HK1.out; first | omega | exact Nat.le_refl _⟩, ⟨by (with_reducible repeat (first | refine blk_drewN ?_ _ | refine blk_drew ?_ | refine blk_alloc ?_ _)); exact BK115.out⟩, ⟨by (with_reducible repeat (first | refine blk_drewN ?_ _ | refine blk_drew ?_ | refine blk_alloc ?_ _)); exact BK116.out⟩, ⟨by repeat (first | (with_reducible first | exact HB.out | apply below_alloc | apply pw_below_drewN | apply below_drew1 | refine below_set ?_ GE115.out | refine below_set ?_ GE116.out) | exact HB.out)⟩⟩
                      · replace c35 := Bool.eq_false_iff.mpr c35
                        subst c35
                        have H1 : (tags_rule_may.j1 k1 false a1_0 a1_1 a1_2 a1_3 a1_4 a1_5 a1_6 a1_7) = some r := by rw [if_neg (show ¬ (false = true) by decide)] at H; exact H
                        clear H
                        have H := H1
                        clear H1
                        have H' := Aside0.mk H
                        clear H
                        have hnb39 := NB116_115.out
                        have hnc39 := NB115_116.out
                        have hcz40_0 : wr.cell? ⟨gb116, 0, none⟩ = some (.int .i64 a1_0) := (blk_cell BK116.out 0).trans rfl
                        have hcz40_1 : wr.cell? ⟨gb116, 1, none⟩ = some (.int .i64 a1_1) := (blk_cell BK116.out 1).trans rfl
                        have hcz40_2 : wr.cell? ⟨gb116, 2, none⟩ = some (.int .u64 a1_2) := (blk_cell BK116.out 2).trans rfl
                        have hcz40_3 : wr.cell? ⟨gb116, 3, none⟩ = some (.int .u64 a1_3) := (blk_cell BK116.out 3).trans rfl
                        have hcz40_4 : wr.cell? ⟨gb116, 4, none⟩ = some (.int .i64 a1_4) := (blk_cell BK116.out 4).trans rfl
                        have hcz40_5 : wr.cell? ⟨gb116, 5, none⟩ = some (.int .i64 a1_5) := (blk_cell BK116.out 5).trans rfl
                        have hcz40_6 : wr.cell? ⟨gb116, 6, none⟩ = some (.int .i64 a1_6) := (blk_cell BK116.out 6).trans rfl
                        have hcz40_7 : wr.cell? ⟨gb116, 7, none⟩ = some (.int .i64 a1_7) := (blk_cell BK116.out 7).trans rfl
                        have hfz40_0 := blk_frozen BK116.out 0
                        have hfz40_1 := blk_frozen BK116.out 1
                        have hfz40_2 := blk_frozen BK116.out 2
                        have hfz40_3 := blk_frozen BK116.out 3
                        have hfz40_4 := blk_frozen BK116.out 4
                        have hfz40_5 := blk_frozen BK116.out 5
                        have hfz40_6 := blk_frozen BK116.out 6
                        have hfz40_7 := blk_frozen BK116.out 7
                        have hcz41_0 : wr.cell? ⟨gb115, 0, none⟩ = some (.slice A0_0 l0_0.length c0_0) := (blk_cell BK115.out 0).trans rfl
                        have hcz41_1 : wr.cell? ⟨gb115, 1, none⟩ = some (.int .i64 a0_1) := (blk_cell BK115.out 1).trans rfl
                        have hcz41_2 : wr.cell? ⟨gb115, 2, none⟩ = some (.int .i64 a0_2) := (blk_cell BK115.out 2).trans rfl
                        have hcz41_3 : wr.cell? ⟨gb115, 3, none⟩ = some (.int .i64 a0_3) := (blk_cell BK115.out 3).trans rfl
                        have hcz41_4 : wr.cell? ⟨gb115, 4, none⟩ = some (.int .i64 a0_4) := (blk_cell BK115.out 4).trans rfl
                        have hcz41_5 : wr.cell? ⟨gb115, 5, none⟩ = some (.bool false) := (blk_cell BK115.out 5).trans rfl
                        have hfz41_0 := blk_frozen BK115.out 0
                        have hfz41_1 := blk_frozen BK115.out 1
                        have hfz41_2 := blk_frozen BK115.out 2
                        have hfz41_3 := blk_frozen BK115.out 3
                        have hfz41_4 := blk_frozen BK115.out 4
                        have hfz41_5 := blk_frozen BK115.out 5
                        go_wp2
                        go_meet
                        case rel => exact ⟨_, (false), (by first | rfl | (simp; done) | (simp [*]; done)), H', ⟨by have := HK1.out; first | omega | exact Nat.le_refl _⟩, ⟨by (with_reducible repeat (first | refine blk_drewN ?_ _ | refine blk_drew ?_ | refine blk_alloc ?_ _)); exact BK115.out⟩, ⟨by (with_reducible repeat (first | refine blk_drewN ?_ _ | refine blk_drew ?_ | refine blk_alloc ?_ _)); exact BK116.out⟩, ⟨by repeat (first | (with_reducible first | exact HB.out | apply below_alloc | apply pw_below_drewN | apply below_drew1 | refine below_set ?_ GE115.out | refine below_set ?_ GE116.out) | exact HB.out)⟩⟩
          · replace c14 := Bool.eq_false_iff.mpr c14
            subst c14
            have H1 : (tags_rule_may.j1 k1 true a1_0 a1_1 a1_2 a1_3 a1_4 a1_5 a1_6 a1_7) = some r := by rw [if_neg (show ¬ (false = true) by decide)] at H; exact H
            clear H
            have H := H1
            clear H1
            have H' := Aside0.mk H
            clear H
            go_wp2
            go_meet
            case rel => exact ⟨_, (true), (by first | rfl | (simp; done) | (simp [*]; done)), H', ⟨by have := HK1.out; first | omega | exact Nat.le_refl _⟩, ⟨by (with_reducible repeat (first | refine blk_drewN ?_ _ | refine blk_drew ?_ | refine blk_alloc ?_ _)); exact BK115.out⟩, ⟨by (with_reducible repeat (first | refine blk_drewN ?_ _ | refine blk_drew ?_ | refine blk_alloc ?_ _)); exact BK116.out⟩, ⟨by repeat (first | (with_reducible first | exact HB.out | apply below_alloc | apply pw_below_drewN | apply below_drew1 | refine below_set ?_ GE115.out | refine below_set ?_ GE116.out) | exact HB.out)⟩⟩
        case rest =>
          clear HC13
          try clear c1
          try clear p1
          try clear q1
          try clear hx1
          try clear c2
          try clear p2
          try clear c3
          try clear c5
          try clear p6
          try clear c7
          try clear c7b0
          try clear c8
          try clear c8b0
          try clear c9
          try clear c9b0
          try clear c10
          try clear c11
          try clear p11
          try clear q11
          try clear hx11
          try clear c14
          try clear c15
          try clear c15b0
          try clear c16
          try clear c19
          try clear c19b0
          try clear c20
          try clear c23
          try clear c23b0
          try clear c24
          try clear c27
          try clear c27b0
          try clear c28
          try clear c31
          try clear c31b0
          try clear c32
          try clear c35
          try clear c36
          try clear c39
          try clear hcz12_0
          try clear hcz12_1
          try clear hcz12_2
          try clear hcz12_3
          try clear hcz12_4
          try clear hcz12_5
          try clear hcz12_6
          try clear hcz12_7
          try clear hcz17_0
          try clear hcz17_1
          try clear hcz17_2
          try clear hcz17_3
          try clear hcz17_4
          try clear hcz17_5
          try clear hcz17_6
          try clear hcz17_7
          try clear hcz18_0
          try clear hcz18_1
          try clear hcz18_2
          try clear hcz18_3
          try clear hcz18_4
          try clear hcz18_5
          try clear hcz21_0
          try clear hcz21_1
          try clear hcz21_2
          try clear hcz21_3
          try clear hcz21_4
          try clear hcz21_5
          try clear hcz21_6
          try clear hcz21_7
          try clear hcz22_0
          try clear hcz22_1
          try clear hcz22_2
          try clear hcz22_3
          try clear hcz22_4
          try clear hcz22_5
          try clear hcz25_0
          try clear hcz25_1
          try clear hcz25_2
          try clear hcz25_3
          try clear hcz25_4
          try clear hcz25_5
          try clear hcz25_6
          try clear hcz25_7
          try clear hcz26_0
          try clear hcz26_1
          try clear hcz26_2
          try clear hcz26_3
          try clear hcz26_4
          try clear hcz26_5
          try clear hcz29_0
          try clear hcz29_1
          try clear hcz29_2
          try clear hcz29_3
          try clear hcz29_4
          try clear hcz29_5
          try clear hcz29_6
          try clear hcz29_7
          try clear hcz30_0
          try clear hcz30_1
          try clear hcz30_2
          try clear hcz30_3
          try clear hcz30_4
          try clear hcz30_5
          try clear hcz33_0
          try clear hcz33_1
          try clear hcz33_2
          try clear hcz33_3
          try clear hcz33_4
          try clear hcz33_5
          try clear hcz33_6
          try clear hcz33_7
          try clear hcz34_0
          try clear hcz34_1
          try clear hcz34_2
          try clear hcz34_3
          try clear hcz34_4
          try clear hcz34_5
          try clear hcz37_0
          try clear hcz37_1
          try clear hcz37_2
          try clear hcz37_3
          try clear hcz37_4
          try clear hcz37_5
          try clear hcz37_6
          try clear hcz37_7
          try clear hcz38_0
          try clear hcz38_1
          try clear hcz38_2
          try clear hcz38_3
          try clear hcz38_4
          try clear hcz38_5
          try clear hcz40_0
          try clear hcz40_1
          try clear hcz40_2
          try clear hcz40_3
          try clear hcz40_4
          try clear hcz40_5
          try clear hcz40_6
          try clear hcz40_7
          try clear hcz41_0
          try clear hcz41_1
          try clear hcz41_2
          try clear hcz41_3
          try clear hcz41_4
          try clear hcz41_5
          try clear hcz6_0
          try clear hcz6_1
          try clear hcz6_2
          try clear hcz6_3
          try clear hcz6_4
          try clear hcz6_5
          try clear hfz12_0
          try clear hfz12_1
          try clear hfz12_2
          try clear hfz12_3
          try clear hfz12_4
          try clear hfz12_5
          try clear hfz12_6
          try clear hfz12_7
          try clear hfz17_0
          try clear hfz17_1
          try clear hfz17_2
          try clear hfz17_3
          try clear hfz17_4
          try clear hfz17_5
          try clear hfz17_6
          try clear hfz17_7
          try clear hfz18_0
          try clear hfz18_1
          try clear hfz18_2
          try clear hfz18_3
          try clear hfz18_4
          try clear hfz18_5
          try clear hfz21_0
          try clear hfz21_1
          try clear hfz21_2
          try clear hfz21_3
          try clear hfz21_4
          try clear hfz21_5
          try clear hfz21_6
          try clear hfz21_7
          try clear hfz22_0
          try clear hfz22_1
          try clear hfz22_2
          try clear hfz22_3
          try clear hfz22_4
          try clear hfz22_5
          try clear hfz25_0
          try clear hfz25_1
          try clear hfz25_2
          try clear hfz25_3
          try clear hfz25_4
          try clear hfz25_5
          try clear hfz25_6
          try clear hfz25_7
          try clear hfz26_0
          try clear hfz26_1
          try clear hfz26_2
          try clear hfz26_3
          try clear hfz26_4
          try clear hfz26_5
          try clear hfz29_0
          try clear hfz29_1
          try clear hfz29_2
          try clear hfz29_3
          try clear hfz29_4
          try clear hfz29_5
          try clear hfz29_6
          try clear hfz29_7
          try clear hfz30_0
          try clear hfz30_1
          try clear hfz30_2
          try clear hfz30_3
          try clear hfz30_4
          try clear hfz30_5
          try clear hfz33_0
          try clear hfz33_1
          try clear hfz33_2
          try clear hfz33_3
          try clear hfz33_4
          try clear hfz33_5
          try clear hfz33_6
          try clear hfz33_7
          try clear hfz34_0
          try clear hfz34_1
          try clear hfz34_2
          try clear hfz34_3
          try clear hfz34_4
          try clear hfz34_5
          try clear hfz37_0
          try clear hfz37_1
          try clear hfz37_2
          try clear hfz37_3
          try clear hfz37_4
          try clear hfz37_5
          try clear hfz37_6
          try clear hfz37_7
          try clear hfz38_0
          try clear hfz38_1
          try clear hfz38_2
          try clear hfz38_3
          try clear hfz38_4
          try clear hfz38_5
          try clear hfz40_0
          try clear hfz40_1
          try clear hfz40_2
          try clear hfz40_3
          try clear hfz40_4
          try clear hfz40_5
          try clear hfz40_6
          try clear hfz40_7
          try clear hfz41_0
          try clear hfz41_1
          try clear hfz41_2
          try clear hfz41_3
          try clear hfz41_4
          try clear hfz41_5
          try clear hfz6_0
          try clear hfz6_1
          try clear hfz6_2
          try clear hfz6_3
          try clear hfz6_4
          try clear hfz6_5
          try clear hx117_0
          try clear p117
          try clear p2
          try clear q117
          obtain ⟨kq, x66_12, rfl, HA, HJ12, BK115, BK116, HB⟩ := hcut
          cases kq with
          | zero => exact absurd HA.out (by simp [tags_rule_may.j1])
          | succ kj12 =>
            have H := HA.out
            clear HA
            simp only [tags_rule_may.j1] at H
            by_cases c42 : x66_12 = true
            · subst c42
              have H1 : (some false) = some r := by rw [if_pos rfl] at H; exact H
              clear H
              have H := H1
              clear H1
              obtain rfl := Option.some.inj H
              go_wp2
              go_ret
              exact ⟨by first | rfl | (simp [errW_none, errW_some] <;> rfl) | (simp [*, errW_none, errW_some] <;> rfl), by repeat (first | (with_reducible first | exact HB.out | apply below_alloc | apply pw_below_drewN | apply below_drew1 | refine below_set ?_ GE115.out | refine below_set ?_ GE116.out) | exact HB.out)⟩
            · replace c42 := Bool.eq_false_iff.mpr c42
              subst c42
              have H1 : (if a1_0 = 4 then (if a1_5 < a1_4 then (some ((a1_1 == 4) == (a1_5 == (wrap64 (a1_4 - 1))))) else (some false)) else (some true)) = some r := by rw [if_neg (show ¬ (false = true) by decide)] at H; exact H
              clear H
              have H := H1
              clear H1
              by_cases c43 : a1_0 = 4
              · rw [if_pos c43] at H
                have c43b0 : (a1_0 == 4) = true := beq_iff_eq.mpr c43
                have c43b1 : (a1_0 != 4) = false := bne_eq_false_iff_eq.mpr c43
                clear c43
                by_cases c44 : a1_5 < a1_4
                · rw [if_pos c44] at H
                  have c44b0 : decide (a1_5 < a1_4) = true := decide_eq_true c44
                  clear c44
                  obtain rfl := Option.some.inj H
                  have hnb45 := NB116_115.out
                  have hnc45 := NB115_116.out
                  have hcz46_0 : wc.cell? ⟨gb116, 0, none⟩ = some (.int .i64 a1_0) := (blk_cell BK116.out 0).trans rfl
                  have hcz46_1 : wc.cell? ⟨gb116, 1, none⟩ = some (.int .i64 a1_1) := (blk_cell BK116.out 1).trans rfl
                  have hcz46_2 : wc.cell? ⟨gb116, 2, none⟩ = some (.int .u64 a1_2) := (blk_cell BK116.out 2).trans rfl
                  have hcz46_3 : wc.cell? ⟨gb116, 3, none⟩ = some (.int .u64 a1_3) := (blk_cell BK116.out 3).trans rfl
                  have hcz46_4 : wc.cell? ⟨gb116, 4, none⟩ = some (.int .i64 a1_4) := (blk_cell BK116.out 4).trans rfl
                  have hcz46_5 : wc.cell? ⟨gb116, 5, none⟩ = some (.int .i64 a1_5) := (blk_cell BK116.out 5).trans rfl
                  have hcz46_6 : wc.cell? ⟨gb116, 6, none⟩ = some (.int .i64 a1_6) := (blk_cell BK116.out 6).trans rfl
                  have hcz46_7 : wc.cell? ⟨gb116, 7, none⟩ = some (.int .i64 a1_7) := (blk_cell BK116.out 7).trans rfl
                  have hfz46_0 := blk_frozen BK116.out 0
                  have hfz46_1 := blk_frozen BK116.out 1
                  have hfz46_2 := blk_frozen BK116.out 2
                  have hfz46_3 := blk_frozen BK116.out 3
                  have hfz46_4 := blk_frozen BK116.out 4
                  have hfz46_5 := blk_frozen BK116.out 5
                  have hfz46_6 := blk_frozen BK116.out 6
                  have hfz46_7 := blk_frozen BK116.out 7
                  go_wp2
                  go_ret
                  exact ⟨by first | rfl | (simp [errW_none, errW_some] <;> rfl) | (simp [*, errW_none, errW_some] <;> rfl), by repeat (first | (with_reducible first | exact HB.out | apply below_alloc | apply pw_below_drewN | apply below_drew1 | refine below_set ?_ GE115.out | refine below_set ?_ GE116.out) | exact HB.out)⟩
                · rw [if_neg c44] at H
                  have c44b0 : decide (a1_5 < a1_4) = false := decide_eq_false c44
                  clear c44
                  obtain rfl := Option.some.inj H
                  have hnb47 := NB116_115.out
                  have hnc47 := NB115_116.out
                  have hcz48_0 : wc.cell? ⟨gb116, 0, none⟩ = some (.int .i64 a1_0) := (blk_cell BK116.out 0).trans rfl
                  have hcz48_1 : wc.cell? ⟨gb116, 1, none⟩ = some (.int .i64 a1_1) := (blk_cell BK116.out 1).trans rfl
                  have hcz48_2 : wc.cell? ⟨gb116, 2, none⟩ = some (.int .u64 a1_2) := (blk_cell BK116.out 2).trans rfl
                  have hcz48_3 : wc.cell? ⟨gb116, 3, none⟩ = some (.int .u64 a1_3) := (blk_cell BK116.out 3).trans rfl
                  have hcz48_4 : wc.cell? ⟨gb116, 4, none⟩ = some (.int .i64 a1_4) := (blk_cell BK116.out 4).trans rfl
                  have hcz48_5 : wc.cell? ⟨gb116, 5, none⟩ = some (.int .i64 a1_5) := (blk_cell BK116.out 5).trans rfl
                  have hcz48_6 : wc.cell? ⟨gb116, 6, none⟩ = some (.int .i64 a1_6) := (blk_cell BK116.out 6).trans rfl
                  have hcz48_7 : wc.cell? ⟨gb116, 7, none⟩ = some (.int .i64 a1_7) := (blk_cell BK116.out 7).trans rfl
                  have hfz48_0 := blk_frozen BK116.out 0
                  have hfz48_1 := blk_frozen BK116.out 1
                  have hfz48_2 := blk_frozen BK116.out 2
                  have hfz48_3 := blk_frozen BK116.out 3
                  have hfz48_4 := blk_frozen BK116.out 4
                  have hfz48_5 := blk_frozen BK116.out 5
                  have hfz48_6 := blk_frozen BK116.out 6
                  have hfz48_7 := blk_frozen BK116.out 7
                  go_wp2
                  go_ret
                  exact ⟨by first | rfl | (simp [errW_none, errW_some] <;> rfl) | (simp [*, errW_none, errW_some] <;> rfl), by repeat (first | (with_reducible first | exact HB.out | apply below_alloc | apply pw_below_drewN | apply below_drew1 | refine below_set ?_ GE115.out | refine below_set ?_ GE116.out) | exact HB.out)⟩
              · rw [if_neg c43] at H
                have c43b0 : (a1_0 == 4) = false := beq_eq_false_iff_ne.mpr c43
                have c43b1 : (a1_0 != 4) = true := bne_iff_ne.mpr c43
                obtain rfl := Option.some.inj H
                have hnb49 := NB116_115.out
                have hnc49 := NB115_116.out
                have hcz50_0 : wc.cell? ⟨gb116, 0, none⟩ = some (.int .i64 a1_0) := (blk_cell BK116.out 0).trans rfl
                have hcz50_1 : wc.cell? ⟨gb116, 1, none⟩ = some (.int .i64 a1_1) := (blk_cell BK116.out 1).trans rfl
                have hcz50_2 : wc.cell? ⟨gb116, 2, none⟩ = some (.int .u64 a1_2) := (blk_cell BK116.out 2).trans rfl
                have hcz50_3 : wc.cell? ⟨gb116, 3, none⟩ = some (.int .u64 a1_3) := (blk_cell BK116.out 3).trans rfl
                have hcz50_4 : wc.cell? ⟨gb116, 4, none⟩ = some (.int .i64 a1_4) := (blk_cell BK116.out 4).trans rfl
                have hcz50_5 : wc.cell? ⟨gb116, 5, none⟩ = some (.int .i64 a1_5) := (blk_cell BK116.out 5).trans rfl
                have hcz50_6 : wc.cell? ⟨gb116, 6, none⟩ = some (.int .i64 a1_6) := (blk_cell BK116.out 6).trans rfl
                have hcz50_7 : wc.cell? ⟨gb116, 7, none⟩ = some (.int .i64 a1_7) := (blk_cell BK116.out 7).trans rfl
                have hfz50_0 := blk_frozen BK116.out 0
                have hfz50_1 := blk_frozen BK116.out 1
                have hfz50_2 := blk_frozen BK116.out 2
                have hfz50_3 := blk_frozen BK116.out 3
                have hfz50_4 := blk_frozen BK116.out 4
                have hfz50_5 := blk_frozen BK116.out 5
                have hfz50_6 := blk_frozen BK116.out 6
                have hfz50_7 := blk_frozen BK116.out 7
                go_wp2
                go_ret
                exact ⟨by first | rfl | (simp [errW_none, errW_some] <;> rfl) | (simp [*, errW_none, errW_some] <;> rfl), by repeat (first | (with_reducible first | exact HB.out | apply below_alloc | apply pw_below_drewN | apply below_drew1 | refine below_set ?_ GE115.out | refine below_set ?_ GE116.out) | exact HB.out)⟩

-- NOT PRINTED: function 5 (tags_Check)

end Go.Proofs.Ytekbjcagjkcaiaa.PTagsChecks
