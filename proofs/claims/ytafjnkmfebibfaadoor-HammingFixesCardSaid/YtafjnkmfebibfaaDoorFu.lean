/- Walk of turned (a bit of a sector or of its sum). -/
import Derived.Test.YtafjnkmfebibfaaDoorFt
namespace Go.Proofs.YtafjnkmfebibfaaDoor
open Go.RowKit
set_option linter.unusedVariables false
set_option linter.unusedSimpArgs false
theorem hi_xor (i y x z : Nat) (hx : x < 2 ^ i) (hz : z < 2 ^ i) : (2 ^ i * y + x) ^^^ z = 2 ^ i * y + (x ^^^ z) := by
  apply Nat.eq_of_testBit_eq
  intro j
  rw [Nat.testBit_xor, Nat.testBit_two_pow_mul_add y hx j, Nat.testBit_two_pow_mul_add y (Nat.xor_lt_two_pow hx hz) j]
  by_cases h : j < i
  · rw [if_pos h, if_pos h, Nat.testBit_xor]
  · rw [if_neg h, if_neg h, Nat.testBit_lt_two_pow (Nat.lt_of_lt_of_le hz (Nat.pow_le_pow_right (by decide) (by omega))), Bool.xor_false]
theorem lo_xor (i y x z : Nat) (hx : x < 2 ^ i) : (2 ^ i * y + x) ^^^ (2 ^ i * z) = 2 ^ i * (y ^^^ z) + x := by
  apply Nat.eq_of_testBit_eq
  intro j
  have hz := Nat.testBit_two_pow_mul_add z (Nat.two_pow_pos i) j
  rw [Nat.add_zero] at hz
  rw [Nat.testBit_xor, Nat.testBit_two_pow_mul_add y hx j, Nat.testBit_two_pow_mul_add _ hx j, hz]
  by_cases h : j < i
  · rw [if_pos h, if_pos h, if_pos h]; simp
  · rw [if_neg h, if_neg h, if_neg h, Nat.testBit_xor]
theorem flipBit_nat (b : UInt8) (k : Nat) (h : k < 8) : (flipBit b k).toNat = b.toNat ^^^ 2 ^ k := by
  unfold flipBit
  rw [UInt8.toNat_xor, UInt8.toNat_ofNat_of_lt' (by show _ < 256; exact bit_lt k h)]
/-- Three bytes as a number, and a bit of them turned. -/
def num3 (l : List UInt8) : Nat := (bt l 0).toNat + (bt l 1).toNat * 256 + (bt l 2).toNat * 65536
theorem num3_lt (l : List UInt8) : num3 l < 16777216 := by
  have h0 := (bt l 0).toNat_lt
  have h1 := (bt l 1).toNat_lt
  have h2 := (bt l 2).toNat_lt
  unfold num3
  omega
theorem triC_num3 (l : List UInt8) (h : l.length = 3) : triC (num3 l) = u8s l := by
  unfold num3
  rw [tri_of _ _ _ (bt l 0).toNat_lt (bt l 1).toNat_lt (bt l 2).toNat_lt]
  match l, h with
  | [a, b, c], _ => rfl
theorem tri_num3 (g : Nat) (hg : g < 16777216) : ∃ l : List UInt8, l.length = 3 ∧ num3 l = g := by
  obtain ⟨a, b, c, ha, hb, hc, e, _⟩ := tri_parts g hg
  refine ⟨[UInt8.ofNat a, UInt8.ofNat b, UInt8.ofNat c], rfl, ?_⟩
  show (UInt8.ofNat a).toNat + (UInt8.ofNat b).toNat * 256 + (UInt8.ofNat c).toNat * 65536 = g
  rw [UInt8.toNat_ofNat_of_lt' ha, UInt8.toNat_ofNat_of_lt' hb, UInt8.toNat_ofNat_of_lt' hc, e]
theorem num3_flip (l : List UInt8) (k : Nat) (hl : l.length = 3) (hk : k < 24) : num3 (flipB l k) = num3 l ^^^ 2 ^ k := by
  have h0 := (bt l 0).toNat_lt
  have h1 := (bt l 1).toNat_lt
  have h2 := (bt l 2).toNat_lt
  have e : ∀ a b c : Nat, a + b * 256 + c * 65536 = 2 ^ 8 * (2 ^ 8 * c + b) + a := fun a b c => by rw [show (2 : Nat) ^ 8 = 256 by decide]; omega
  have hf : ∀ i, bt (flipB l k) i = if i = k / 8 then flipBit (bt l (k / 8)) (k % 8) else bt l i := fun i => bt_set l (k / 8) i _ (by omega)
  have hb := flipBit_nat (bt l (k / 8)) (k % 8) (by omega)
  have p8 : (2 : Nat) ^ 8 = 256 := by decide
  have hm : k / 8 = 0 ∨ k / 8 = 1 ∨ k / 8 = 2 := by omega
  unfold num3
  rw [hf 0, hf 1, hf 2, e (bt l 0).toNat]
  rcases hm with h | h | h
  · rw [h] at hb ⊢
    rw [if_pos rfl, if_neg (by decide), if_neg (by decide), hb, e, show k % 8 = k by omega, hi_xor 8 _ _ (2 ^ k) h0 (by rw [p8]; exact bit_lt k (by omega))]
  · rw [h] at hb ⊢
    rw [if_neg (by decide), if_pos rfl, if_neg (by decide), hb, e, show (2 : Nat) ^ k = 2 ^ 8 * 2 ^ (k % 8) by rw [← Nat.pow_add]; congr 1; omega, lo_xor 8 _ _ _ h0, hi_xor 8 _ _ _ h1 (by rw [p8]; exact bit_lt _ (by omega))]
  · rw [h] at hb ⊢
    rw [if_neg (by decide), if_neg (by decide), if_pos rfl, hb, e, show (2 : Nat) ^ k = 2 ^ 8 * (2 ^ 8 * 2 ^ (k % 8)) by rw [← Nat.pow_add, ← Nat.pow_add]; congr 1; omega, lo_xor 8 _ _ _ h0, lo_xor 8 _ _ _ h1]
/-- A sector and its sum with a bit turned. -/
def turnL (l : List UInt8) (m : Nat) : List UInt8 := if m < 2048 then flipB l m else l
def turnG (g m : Nat) : Nat := if m < 2048 then g else g ^^^ 2 ^ (m - 2048)
theorem turnL_len (l : List UInt8) (m : Nat) : (turnL l m).length = l.length := by unfold turnL; split; exact flipB_len _ _; rfl
theorem turnG_lt (g m : Nat) (hg : g < 16777216) (hm : m < 2072) : turnG g m < 16777216 := by
  unfold turnG
  split
  · exact hg
  · exact Nat.xor_lt_two_pow (n := 24) hg (Nat.pow_lt_pow_right (by decide) (by omega))
theorem results_tc' {P : Program} {fn : Func} {p u : Tmp} {ty : TypeId} (h : fn.results = #[.tmp u, .cell p ty]) (tmps : Array Value) (w : World) (g : Nat) (t : TypeId) (cs : Array Value) (fr : Nat × Nat) (d : TypeDesc)
    (hp : tmps.getD p undef = .pointer (some ⟨g, 0, none⟩)) (hg : w.heap[g]? = some (.cells cs t fr))
    (hu : P.underlying ty = some d) (hd : (match d with | .struct _ | .array _ _ => true | _ => false) = true) (hi : (P.info? ty).map (·.size) = some cs.size) :
    (results fn tmps).run P w = .ok (.tuple #[tmps.getD u undef, .agg cs]) w := by
  have hp' : tmps[p]?.getD undef = .pointer (some ⟨g, 0, none⟩) := by simpa using hp
  simp [results, h, hp', asAddr, run_loadVar_row w g t ty cs fr d hg hu hd hi]
theorem cells3 {w : World} {G : Nat} {t : TypeId} {x0 x1 x2 : Int} (h : Blk w G t [.int .u8 x0, .int .u8 x1, .int .u8 x2]) : w.cell? ⟨G, 0, none⟩ = some (.int .u8 x0) ∧ w.cell? ⟨G, 1, none⟩ = some (.int .u8 x1) ∧ w.cell? ⟨G, 2, none⟩ = some (.int .u8 x2) :=
  ⟨by rw [h.cell]; rfl, by rw [h.cell]; rfl, by rw [h.cell]; rfl⟩
theorem cells3s {w : World} {G : Nat} {t : TypeId} {x0 x1 x2 : Int} {sp : List Value} (h : Blk w G t ([.int .u8 x0, .int .u8 x1, .int .u8 x2] ++ sp)) : w.cell? ⟨G, 0, none⟩ = some (.int .u8 x0) ∧ w.cell? ⟨G, 1, none⟩ = some (.int .u8 x1) ∧ w.cell? ⟨G, 2, none⟩ = some (.int .u8 x2) :=
  ⟨by rw [h.cell]; rfl, by rw [h.cell]; rfl, by rw [h.cell]; rfl⟩
set_option maxRecDepth 100000 in
set_option maxHeartbeats 3200000 in
theorem turned_any (A : Option Addr) (n cap : Nat) (l : List UInt8) (g m : Nat) (w : World) (hl : l.length = n) (hn : n = 256) (hr : Rd w A (u8s l)) (hg : g < 16777216) (hm : m < 2072) :
    Calls Tryd.prog 16 #[.slice A n cap, tri g, .int .i64 (m : Int)] w fun e w' => ∃ A' cap', e = .returned (.tuple #[.slice A' n cap', tri (turnG g m)]) ∧ Rd w' A' (u8s (turnL l m)) ∧ Below w.heap.size w w' := by
  have HL := Lib.hid hl
  have HN := Lib.hid hn
  clear hl
  have hn2 : n ≤ 1000 := by omega
  have hn3 : 256 ≤ n := by omega
  clear hn
  obtain ⟨x0, x1, x2, hx⟩ := tri_eq g
  have htri : tri g = .agg #[.int .u8 x0, .int .u8 x1, .int .u8 x2] := by unfold tri; rw [hx]
  obtain ⟨w2, hw2⟩ : ∃ w2, w2 = (w.alloc (.cells #[.int .u8 x0, .int .u8 x1, .int .u8 x2] 23)).alloc (.cells #[.int .u8 0, .int .u8 0, .int .u8 0] 23) := ⟨_, rfl⟩
  have hB : Below w.heap.size w w2 := by rw [hw2]; exact ((Below.refl _ w).alloc (Nat.le_refl _) _).alloc (by simp) _
  have hbg : Blk w2 w.heap.size 23 [.int .u8 x0, .int .u8 x1, .int .u8 x2] := by rw [hw2]; exact (Blk.new w _ [.int .u8 x0, .int .u8 x1, .int .u8 x2]).alloc _
  have hbt : Blk w2 (w.heap.size + 1) 23 [.int .u8 0, .int .u8 0, .int .u8 0] := by
    have h := Blk.new (w.alloc (.cells #[.int .u8 x0, .int .u8 x1, .int .u8 x2] 23)) 23 [.int .u8 0, .int .u8 0, .int .u8 0]
    rw [World.size_alloc] at h
    rw [hw2]; exact h
  have hr2 := hr.below hB
  rw [htri]
  by_cases hlt : m < 2048
  · have hT := fun wx hrx => Turned_any A n cap l m wx HL.out hrx (by omega) (by omega)
    rw [show turnG g m = g from if_pos hlt, show turnL l m = flipB l m from if_pos hlt, htri]
    go_enter Tryd.func16, Tryd.ntmps16
    go_wp2
    rw [← hw2]
    obtain ⟨G, hG⟩ : ∃ G, G = w.heap.size := ⟨_, rfl⟩
    rw [← hG] at hbg hbt ⊢
    have HG := Lib.hid hG
    clear hG hw2
    have hbgd : Blk w2.drew G 23 [.int .u8 x0, .int .u8 x1, .int .u8 x2] := hbg
    have hbtd : Blk w2.drew (G + 1) 23 [.int .u8 0, .int .u8 0, .int .u8 0] := hbt
    have hBd : Below w.heap.size w w2.drew := ⟨hB.os, hB.tape, hB.output, hB.size, hB.block⟩
    have hrd : Rd w2.drew A (u8s l) := hr2
    have d0 : w2.cell? ⟨G, 0, none⟩ = some (.int .u8 x0) := by rw [hbg.cell]; rfl
    have d1 : w2.cell? ⟨G, 1, none⟩ = some (.int .u8 x1) := by rw [hbg.cell]; rfl
    have d2 : w2.cell? ⟨G, 2, none⟩ = some (.int .u8 x2) := by rw [hbg.cell]; rfl
    clear hbg hbt hB hr2
    go_region_held3 (fun wx => wx.cell? ⟨G, 0, none⟩ = some (.int .u8 x0) ∧ wx.cell? ⟨G, 1, none⟩ = some (.int .u8 x1) ∧ wx.cell? ⟨G, 2, none⟩ = some (.int .u8 x2)) (first | exact cells3 (by assumption) | go_keep) (first | (go_at_call 23; (with_reducible refine (hT _ hrd).mono ?_); rintro e w3 ⟨v1, sp1, rfl, ho1, hv1, hb3⟩; have hbg3 := hbgd.frm (ex := fun _ => False) (Frm.of_below hb3) id; have hbt3 := hbtd.frm (ex := fun _ => False) (Frm.of_below hb3) id; have hB3 := hBd.trans (hb3.mono hBd.size); have t0 : w3.cell? ⟨G + 1, 0, none⟩ = some (.int .u8 0) := (by rw [hbt3.cell]; rfl); have t1 : w3.cell? ⟨G + 1, 1, none⟩ = some (.int .u8 0) := (by rw [hbt3.cell]; rfl); have t2 : w3.cell? ⟨G + 1, 2, none⟩ = some (.int .u8 0) := (by rw [hbt3.cell]; rfl); have z0 := hbt3.frozen 0; have z1 := hbt3.frozen 1; have z2 := hbt3.frozen 2; dsimp only))
    all_goals
      go_wp2
      have hsz := hbtd.lt
      obtain ⟨b5, B5, o5⟩ := fin3 x0 x1 x2 hbt3 hB3 (by have := HG.out; omega) ho1 (fun q hq => by have := hv1 q hq; omega)
      obtain ⟨A', c', rfl, hc', hrr⟩ := o5.rd
      refine bodyPost_ret (results_tc' rfl _ _ (G + 1) 23 #[.int .u8 x0, .int .u8 x1, .int .u8 x2] (0, 0) _ rfl b5 Tryd.underlying23 rfl (by kernel_rfl)) rfl ?_
      exact ⟨A', c', rfl, hrr, ⟨B5.os, B5.tape, B5.output, B5.size, B5.block⟩⟩
  · obtain ⟨lb, hlb, hnb⟩ := tri_num3 g hg
    obtain ⟨j, rfl⟩ : ∃ j, m = 2048 + j := ⟨m - 2048, by omega⟩
    have hj : j < 24 := by omega
    have hT := fun A c wx hrx => Turned_any A 3 c lb j wx hlb hrx (by omega) (by omega)
    have hxb : u8s lb = [.int .u8 x0, .int .u8 x1, .int .u8 x2] := by rw [← triC_num3 lb hlb, hnb, hx]
    obtain ⟨y0, y1, y2, hy⟩ := tri_eq (g ^^^ 2 ^ j)
    have hyb : u8s (flipB lb j) = [.int .u8 y0, .int .u8 y1, .int .u8 y2] := by rw [← triC_num3 _ (by rw [flipB_len]; exact hlb), num3_flip lb j hlb hj, hnb, hy]
    rw [hxb] at hT
    rw [hyb] at hT
    rw [show turnG g (2048 + j) = g ^^^ 2 ^ j by unfold turnG; rw [if_neg (by omega), Nat.add_sub_cancel_left], show turnL l (2048 + j) = l from if_neg (by omega)]
    have hty : tri (g ^^^ 2 ^ j) = .agg #[.int .u8 y0, .int .u8 y1, .int .u8 y2] := by unfold tri; rw [hy]
    rw [hty]
    clear hyb hxb hnb hlb hx hy hm hlt
    go_enter Tryd.func16, Tryd.ntmps16
    have d0 : w2.cell? ⟨w.heap.size, 0, none⟩ = some (.int .u8 x0) := by rw [hbg.cell]; rfl
    have d1 : w2.cell? ⟨w.heap.size, 1, none⟩ = some (.int .u8 x1) := by rw [hbg.cell]; rfl
    have d2 : w2.cell? ⟨w.heap.size, 2, none⟩ = some (.int .u8 x2) := by rw [hbg.cell]; rfl
    rw [hw2] at d0 d1 d2
    go_wp2_with fail
    rw [← hw2]
    have hjj : (2048 + (j : Int) - 2048) = (j : Int) := by omega
    have hsz : w.heap.size + 1 + 1 = w2.heap.size := by rw [hw2]; simp
    rw [hjj, hsz]
    obtain ⟨G, hG⟩ : ∃ G, G = w.heap.size := ⟨_, rfl⟩
    rw [← hG] at hbg hbt hsz ⊢
    have HG := Lib.hid hG
    clear hG hw2 d0 d1 d2
    with_reducible refine (hT _ 3 _ (rd_new w2 5 [.int .u8 x0, .int .u8 x1, .int .u8 x2])).mono ?_
    rintro e w3 ⟨v1, sp1, rfl, ho1, hv1, hb3⟩
    have hB3 := (hB.alloc hB.size (.cells #[.int .u8 x0, .int .u8 x1, .int .u8 x2] 5)).trans (hb3.mono (by have := hB.size; simp; omega))
    have hbt3 := (hbt.alloc (.cells #[.int .u8 x0, .int .u8 x1, .int .u8 x2] 5)).frm (ex := fun _ => False) (Frm.of_below hb3) id
    obtain ⟨g1, cp1, rfl, hb1, hl1, hc1, hn1, hm1⟩ := ho1.blk (by omega)
    have hr3 : Rd w3 A (u8s l) := hr.below hB3
    have c0 : w3.cell? ⟨g1, 0, none⟩ = some (.int .u8 y0) := by rw [hb1.cell]; rfl
    have c1 : w3.cell? ⟨g1, 1, none⟩ = some (.int .u8 y1) := by rw [hb1.cell]; rfl
    have c2 : w3.cell? ⟨g1, 2, none⟩ = some (.int .u8 y2) := by rw [hb1.cell]; rfl
    have t0 : w3.cell? ⟨G + 1, 0, none⟩ = some (.int .u8 0) := by rw [hbt3.cell]; rfl
    have t1 : w3.cell? ⟨G + 1, 1, none⟩ = some (.int .u8 0) := by rw [hbt3.cell]; rfl
    have t2 : w3.cell? ⟨G + 1, 2, none⟩ = some (.int .u8 0) := by rw [hbt3.cell]; rfl
    have z0 := hbt3.frozen 0
    have z1 := hbt3.frozen 1
    have z2 := hbt3.frozen 2
    have hg1 : w2.heap.size + 1 ≤ g1 := by have := hv1 g1 rfl; simpa using this
    have hne : g1 ≠ G + 1 := by omega
    clear hb3 hT hB hbg hbt hr2 hr3 ho1 hjj hv1
    go_wp2
    go_region_held3 (fun wx => wx.cell? ⟨g1, 0, none⟩ = some (.int .u8 y0) ∧ wx.cell? ⟨g1, 1, none⟩ = some (.int .u8 y1) ∧ wx.cell? ⟨g1, 2, none⟩ = some (.int .u8 y2)) (first | exact cells3s hb1 | exact cells3s (((hb1.far (p := ⟨G + 1, 0, none⟩) hne _).far (p := ⟨G + 1, 1, none⟩) hne _).far (p := ⟨G + 1, 2, none⟩) hne _).drew | go_keep) (fail)
    all_goals
      go_wp2
      obtain ⟨b5, B5, o5⟩ := fin3 (n := 0) (v1 := .slice none 0 0) (xs := []) (sp := []) y0 y1 y2 hbt3 hB3 (by have := HG.out; omega) (.inl ⟨rfl, rfl, rfl, rfl⟩) (fun q hq => by cases hq)
      refine bodyPost_ret (results_tc' rfl _ _ (G + 1) 23 #[.int .u8 y0, .int .u8 y1, .int .u8 y2] (0, 0) _ rfl b5 Tryd.underlying23 rfl (by kernel_rfl)) rfl ?_
      exact ⟨A, cap, rfl, hr.below ⟨B5.os, B5.tape, B5.output, B5.size, B5.block⟩, ⟨B5.os, B5.tape, B5.output, B5.size, B5.block⟩⟩
end Go.Proofs.YtafjnkmfebibfaaDoor
