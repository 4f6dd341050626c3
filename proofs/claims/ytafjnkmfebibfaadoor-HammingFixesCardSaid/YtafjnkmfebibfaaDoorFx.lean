/- Walk of Fix. -/
import Derived.Test.YtafjnkmfebibfaaDoorFw
import Derived.Deep.RegionHeld3
namespace Go.Proofs.YtafjnkmfebibfaaDoor
open Go.RowKit
set_option linter.unusedVariables false
set_option linter.unusedSimpArgs false
theorem and_m1 (x : Nat) (h0 : x ≠ 0) (hl : x < 16777216) : Go.bits .and .u32 (x : Int) ((x : Int) - 1) = ((x &&& (x - 1) : Nat) : Int) := by
  rw [show ((x : Int) - 1) = ((x - 1 : Nat) : Int) by omega, u32_and_nat _ _ (by omega) (by omega)]
theorem and_sp (x : Nat) (hl : x < 16777216) : Go.bits .and .u32 (x : Int) 12582912 = ((x &&& 12582912 : Nat) : Int) := u32_and_nat x 12582912 (by omega) (by decide)
theorem xor_ev (x : Nat) (hl : x < 16777216) : Go.bits .xor .u32 (Go.bits .and .u32 (x : Int) 1398101) (Go.bits .and .u32 ((x : Int) / 2) 1398101) = (((x &&& 1398101) ^^^ (x / 2 &&& 1398101) : Nat) : Int) := by
  have h1 : Go.bits .and .u32 (x : Int) 1398101 = ((x &&& 1398101 : Nat) : Int) := u32_and_nat x 1398101 (by omega) (by decide)
  have h2 : Go.bits .and .u32 ((x : Int) / 2) 1398101 = ((x / 2 &&& 1398101 : Nat) : Int) := by
    rw [show (x : Int) / 2 = ((x / 2 : Nat) : Int) by omega]; exact u32_and_nat (x / 2) 1398101 (by omega) (by decide)
  have l1 : x &&& 1398101 < 2097152 := Nat.lt_of_le_of_lt Nat.and_le_right (by decide)
  have l2 : x / 2 &&& 1398101 < 2097152 := Nat.lt_of_le_of_lt Nat.and_le_right (by decide)
  rw [h1, h2, u32_xor_nat _ _ (by omega) (by omega)]
theorem dec_step (m off k : Nat) (hk : k < 11) (hm : m < 2048) (ho : off < 16777216) (hb : off / 2 ^ (2 * k + 1) % 2 = m / 2 ^ k % 2) :
    Go.bits .or .i64 ((m : Int) % 2 ^ k) (wrap64 (wrap64 (Go.bits .and .u32 ((off : Int) / 2 ^ (2 * k + 1)) 1) * 2 ^ k)) = ((m % 2 ^ (k + 1) : Nat) : Int) := by
  have h1 : (off : Int) / 2 ^ (2 * k + 1) = ((off / 2 ^ (2 * k + 1) : Nat) : Int) := by simp
  have h2 : off / 2 ^ (2 * k + 1) ≤ off := Nat.div_le_self _ _
  have h3 : Go.bits .and .u32 ((off / 2 ^ (2 * k + 1) : Nat) : Int) 1 = ((m / 2 ^ k % 2 : Nat) : Int) := by
    rw [show (1 : Int) = ((1 : Nat) : Int) from rfl, u32_and_nat _ _ (by omega) (by decide), show (1 : Nat) = 2 ^ 1 - 1 from rfl, Nat.and_two_pow_sub_one_eq_mod, show (2 : Nat) ^ 1 = 2 from rfl, hb]
  have hq : (2 : Nat) ^ k ≤ 1024 := by rw [show (1024 : Nat) = 2 ^ 10 from rfl]; exact Nat.pow_le_pow_right (by decide) (by omega)
  have h4 : (m : Int) % 2 ^ k = ((m % 2 ^ k : Nat) : Int) := by simp
  have h5 : m % 2 ^ k < 2 ^ k := Nat.mod_lt _ (Nat.two_pow_pos k)
  have h6 := Nat.mod_pow_succ (b := 2) (x := m) (k := k)
  have h7 := Nat.two_pow_add_eq_or_of_lt h5 (m / 2 ^ k % 2)
  have h8 : m / 2 ^ k % 2 ≤ 1 := by omega
  rw [h1, h3, h4, h6]
  generalize m / 2 ^ k % 2 = b at *
  generalize m % 2 ^ k = r at *
  have h9 : (2 : Int) ^ k = ((2 ^ k : Nat) : Int) := by simp
  rw [h9]
  generalize 2 ^ k = p at *
  have h10 : wrap64 (b : Int) = (b : Int) := small_wrap b (by omega)
  have h11 : p * b ≤ p * 1 := Nat.mul_le_mul_left _ h8
  have h12 : (b : Int) * (p : Int) = ((p * b : Nat) : Int) := by rw [Nat.mul_comm]; simp
  rw [h10, h12, small_wrap _ (by omega), i64_or_nat _ _ (by omega) (by omega), Nat.or_comm, ← h7, Nat.add_comm]
/-- What Fix answers. -/
def FixIs (l : List UInt8) (g : Nat) (l' : List UInt8) (g' : Nat) (k e : Int) : Prop :=
  (g ^^^ sumN l = 0 ∧ l' = l ∧ g' = g ∧ k = -1 ∧ e = 0) ∨
  (∃ j : Nat, j < 24 ∧ g ^^^ sumN l = 2 ^ j ∧ l' = l ∧ g' = g ^^^ 2 ^ j ∧ k = 2048 + j ∧ e = 0) ∨
  (∃ m : Nat, m < 2048 ∧ g ^^^ sumN l = E m ∧ l' = flipB l m ∧ g' = g ∧ k = m ∧ e = 0) ∨
  (badB (g ^^^ sumN l) = true ∧ l' = [] ∧ g' = 0 ∧ k = 0 ∧ e = 21)
theorem results_tctt {P : Program} {fn : Func} {s p u v : Tmp} {ty : TypeId} (h : fn.results = #[.tmp s, .cell p ty, .tmp u, .tmp v]) (tmps : Array Value) (w : World) (g : Nat) (t : TypeId) (cs : Array Value) (fr : Nat × Nat) (d : TypeDesc)
    (hp : tmps.getD p undef = .pointer (some ⟨g, 0, none⟩)) (hg : w.heap[g]? = some (.cells cs t fr))
    (hu : P.underlying ty = some d) (hd : (match d with | .struct _ | .array _ _ => true | _ => false) = true) (hi : (P.info? ty).map (·.size) = some cs.size) :
    (results fn tmps).run P w = .ok (.tuple #[tmps.getD s undef, .agg cs, tmps.getD u undef, tmps.getD v undef]) w := by
  have hp' : tmps[p]?.getD undef = .pointer (some ⟨g, 0, none⟩) := by simpa using hp
  simp [results, h, hp', asAddr, run_loadVar_row w g t ty cs fr d hg hu hd hi]
theorem fin3 {w w4 : World} {G n : Nat} {v1 : Value} {xs sp : List Value} (y0 y1 y2 : Int) (hbt : Blk w4 (G + 1) 23 [.int .u8 0, .int .u8 0, .int .u8 0]) (hB : Below w.heap.size w w4) (hG : w.heap.size ≤ G + 1)
    (ho : Own w4 5 1 v1 n xs sp) (hv : ∀ q, v1.ownBlock = some q → q ≠ G + 1) :
    Blk (((w4.setCell ⟨G + 1, 0, none⟩ (.int .u8 y0)).setCell ⟨G + 1, 1, none⟩ (.int .u8 y1)).setCell ⟨G + 1, 2, none⟩ (.int .u8 y2)) (G + 1) 23 [.int .u8 y0, .int .u8 y1, .int .u8 y2] ∧
    Below w.heap.size w (((w4.setCell ⟨G + 1, 0, none⟩ (.int .u8 y0)).setCell ⟨G + 1, 1, none⟩ (.int .u8 y1)).setCell ⟨G + 1, 2, none⟩ (.int .u8 y2)) ∧
    Own (((w4.setCell ⟨G + 1, 0, none⟩ (.int .u8 y0)).setCell ⟨G + 1, 1, none⟩ (.int .u8 y1)).setCell ⟨G + 1, 2, none⟩ (.int .u8 y2)) 5 1 v1 n xs sp := by
  have hf : Frm (fun q => q = G + 1) w4 (((w4.setCell ⟨G + 1, 0, none⟩ (.int .u8 y0)).setCell ⟨G + 1, 1, none⟩ (.int .u8 y1)).setCell ⟨G + 1, 2, none⟩ (.int .u8 y2)) :=
    (((Frm.refl (fun q => q = G + 1) w4).setCell (p := ⟨G + 1, 0, none⟩) (fun _ => rfl) _).setCell (p := ⟨G + 1, 1, none⟩) (fun _ => rfl) _).setCell (p := ⟨G + 1, 2, none⟩) (fun _ => rfl) _
  exact ⟨((hbt.set_ 0 (.int .u8 y0)).set_ 1 (.int .u8 y1)).set_ 2 (.int .u8 y2), below_frm hB hB.size hf (fun q hq => by rw [hq]; exact hG), ho.frm hf (fun q hq => hv q hq)⟩
theorem tri_eq (g : Nat) : ∃ x0 x1 x2 : Int, triC g = [.int .u8 x0, .int .u8 x1, .int .u8 x2] := ⟨_, _, _, rfl⟩
set_option maxHeartbeats 3200000 in
theorem Fix_any (A : Option Addr) (n cap : Nat) (l : List UInt8) (g : Nat) (l' : List UInt8) (g' : Nat) (k e : Int) (w : World) (hl : l.length = n) (hn : n = 256) (hr : Rd w A (u8s l)) (hg : g < 16777216) (hT : Tab w) (hf : FixIs l g l' g' k e) :
    Calls Tryd.prog 10 #[.slice A n cap, tri g] w fun x w' => ∃ v sp, x = .returned (.tuple #[v, tri g', .int .i64 k, .int .i64 e]) ∧ Own w' 5 1 v l'.length (u8s l') sp ∧ (∀ q, v.ownBlock = some q → w.heap.size ≤ q) ∧ Below w.heap.size w w' := by
  have HL := Lib.hid hl
  have HN := Lib.hid hn
  clear hl
  have hnn : ((n : Nat) : Int) = 256 := by omega
  have hn2 : n ≤ 256 := by omega
  clear hn
  have hsl := sumN_lt l
  have hof := u32_xor_nat g (sumN l) (by omega) (by omega)
  have hol : g ^^^ sumN l < 16777216 := Nat.xor_lt_two_pow (n := 24) hg hsl
  obtain ⟨off, hoff⟩ : ∃ off, off = g ^^^ sumN l := ⟨_, rfl⟩
  unfold FixIs at hf
  rw [← hoff] at hf hof hol
  have HO := Lib.hid hoff
  clear hoff
  have hnum : ∀ w1, Calls Tryd.prog 24 #[tri g] w1 fun x w' => x = .returned (.int .u32 (g : Int)) ∧ Below w1.heap.size w1 w' := fun w1 => number_any g hg w1
  obtain ⟨x0, x1, x2, hx⟩ := tri_eq g
  obtain ⟨w2, hw2⟩ : ∃ w2, w2 = (w.alloc (.cells #[.int .u8 x0, .int .u8 x1, .int .u8 x2] 23)).alloc (.cells #[.int .u8 0, .int .u8 0, .int .u8 0] 23) := ⟨_, rfl⟩
  have hB : Below w.heap.size w w2 := by rw [hw2]; exact ((Below.refl _ w).alloc (Nat.le_refl _) _).alloc (by simp) _
  have hbg : Blk w2 w.heap.size 23 [.int .u8 x0, .int .u8 x1, .int .u8 x2] := by rw [hw2]; exact (Blk.new w _ [.int .u8 x0, .int .u8 x1, .int .u8 x2]).alloc _
  have hbt : Blk w2 (w.heap.size + 1) 23 [.int .u8 0, .int .u8 0, .int .u8 0] := by
    have h := Blk.new (w.alloc (.cells #[.int .u8 x0, .int .u8 x1, .int .u8 x2] 23)) 23 [.int .u8 0, .int .u8 0, .int .u8 0]
    rw [World.size_alloc] at h
    rw [hw2]; exact h
  have htri : tri g = .agg #[.int .u8 x0, .int .u8 x1, .int .u8 x2] := by unfold tri; rw [hx]
  rw [htri] at hnum ⊢
  go_enter Tryd.func10, Tryd.ntmps10
  go_wp2_with (at_builtin; rw [← hw2]; refine wpList_app _ rfl (.const (.slice none 0 0)) (.tmp 16) 22 rfl 5 _ 1 1 Tryd.underlying22 info5 rfl (by decide) rfl (.inl ⟨rfl, rfl, rfl, rfl⟩) rfl (by rw [u8s_length, HL.out]; exact (Nat.mul_one _).symm) (hr.below hB) (one_u8s l) (by unfold maxLen; omega) (by omega) ?_; intro v1 w3 sp1 ho1 hy1; simp only [Nat.zero_add, List.nil_append] at ho1; have hF : Frm (fun _ => False) w2 w3 := hy1.frm.mono (fun k _ h => by cases h); have hbg3 := hbg.frm hF id; have hbt3 := hbt.frm hF id; have hv1 := fresh_app (B := w2.heap.size) (Nat.le_refl _) (by intro k hk; cases hk) hy1.at_; have hB3 := below_frm hB hB.size hF (fun _ h => h.elim); have hs2 : w.heap.size + 1 < w2.heap.size := hbt.lt; clear hy1 hF hbg hbt hB; obtain ⟨G, hG⟩ : ∃ G, G = w.heap.size := ⟨_, rfl⟩; rw [← hG] at hbg3 hbt3 hs2 ⊢; have HG := Lib.hid hG; clear hG hw2; have c0 : w3.cell? ⟨G, 0, none⟩ = some (.int .u8 x0) := (by rw [hbg3.cell]; rfl); have c1 : w3.cell? ⟨G, 1, none⟩ = some (.int .u8 x1) := (by rw [hbg3.cell]; rfl); have c2 : w3.cell? ⟨G, 2, none⟩ = some (.int .u8 x2) := (by rw [hbg3.cell]; rfl))
  go_at_call 24
  with_reducible refine (hnum _).mono ?_
  rintro e0 w4 ⟨rfl, b4⟩
  replace hbg3 := hbg3.frm (ex := fun _ => False) (Frm.of_below b4) id
  replace hbt3 := hbt3.frm (ex := fun _ => False) (Frm.of_below b4) id
  replace ho1 := ho1.frm (ex := fun _ => False) (Frm.of_below b4) (fun _ _ => id)
  replace hB3 := hB3.trans (b4.mono hB3.size)
  have hr4 := hr.below hB3
  have hT4 := hT.below hB3
  clear b4 c0 c1 c2 hr hT
  go_wp2_with fail
  with_reducible refine (sum_any A n cap l _ HL.out HN.out hr4).mono ?_
  rintro e0 w' ⟨rfl, rfl⟩
  have hrt := hbt3.frozen
  have c0 : w4.cell? ⟨G, 0, none⟩ = some (.int .u8 x0) := by rw [hbg3.cell]; rfl
  have c1 : w4.cell? ⟨G, 1, none⟩ = some (.int .u8 x1) := by rw [hbg3.cell]; rfl
  have c2 : w4.cell? ⟨G, 2, none⟩ = some (.int .u8 x2) := by rw [hbg3.cell]; rfl
  have t0 : w4.cell? ⟨G + 1, 0, none⟩ = some (.int .u8 0) := by rw [hbt3.cell]; rfl
  have t1 : w4.cell? ⟨G + 1, 1, none⟩ = some (.int .u8 0) := by rw [hbt3.cell]; rfl
  have t2 : w4.cell? ⟨G + 1, 2, none⟩ = some (.int .u8 0) := by rw [hbt3.cell]; rfl
  have z0 := hbt3.frozen 0
  have z1 := hbt3.frozen 1
  have z2 := hbt3.frozen 2
  have hne : G ≠ G + 1 := by omega
  clear hrt
  rcases hf with ⟨h0, rfl, rfl, rfl, rfl⟩ | ⟨j, hj, h0, rfl, rfl, rfl, rfl⟩ | ⟨m, hm, h0, rfl, rfl, rfl, rfl⟩ | ⟨h0, rfl, rfl, rfl, rfl⟩
  · have hz : ((off : Nat) : Int) = 0 := by omega
    clear h0
    go_wp2
    go_region_held3 (fun wx => wx.cell? ⟨G, 0, none⟩ = some (.int .u8 x0) ∧ wx.cell? ⟨G, 1, none⟩ = some (.int .u8 x1) ∧ wx.cell? ⟨G, 2, none⟩ = some (.int .u8 x2)) (go_keep) (fail)
    go_wp2
    obtain ⟨b5, B5, o5⟩ := fin3 x0 x1 x2 hbt3 hB3 (by have := HG.out; omega) ho1 (fun q hq => by have := hv1 q hq; omega)
    refine bodyPost_ret (results_tctt rfl _ _ (G + 1) 23 #[.int .u8 x0, .int .u8 x1, .int .u8 x2] (0, 0) _ rfl b5.drew Tryd.underlying23 rfl (by kernel_rfl)) rfl ?_
    exact ⟨v1, sp1, by rw [htri]; rfl, by rw [HL.out]; exact o5.drew, fun q hq => by have := hv1 q hq; have := HG.out; omega, ⟨B5.os, B5.tape, B5.output, B5.size, B5.block⟩⟩
  · obtain ⟨y0, y1, y2, hy⟩ := tri_eq (g ^^^ off)
    have ht3 : ∀ w1, Calls Tryd.prog 26 #[.int .u32 ((g ^^^ off : Nat) : Int)] w1 fun x w' => x = .returned (.agg #[.int .u8 y0, .int .u8 y1, .int .u8 y2]) ∧ Below w1.heap.size w1 w' := fun w1 => by
      have h := three_any (g ^^^ off) (Nat.lt_trans (Nat.xor_lt_two_pow (n := 24) hg hol) (by decide)) w1
      unfold tri at h
      rw [hy] at h
      exact h
    have htz : ∀ w1, Tab w1 → Calls Tryd.prog 27 #[.int .u32 (off : Int)] w1 fun e w' => e = .returned (.int .i64 (j : Int)) ∧ w1 = w' := fun w1 h => tz_any off j hj h0 w1 h
    have htri2 : tri (g ^^^ 2 ^ j) = .agg #[.int .u8 y0, .int .u8 y1, .int .u8 y2] := by rw [← h0]; unfold tri; rw [hy]
    have hgo := u32_xor_nat g off (by omega) (by omega)
    have h1 := one_tab ⟨j, hj⟩
    simp only [Bool.and_eq_true, bne_iff_ne, beq_iff_eq] at h1
    rw [← h0] at h1
    have hz : ¬ ((off : Nat) : Int) = 0 := by have := h1.1.1; omega
    have hm1 := and_m1 off h1.1.1 hol
    rw [h1.1.2] at hm1
    clear h1 h0 hy
    go_wp2_with fail
    with_reducible refine (hnum _).mono ?_
    rintro e0 w5 ⟨rfl, b5⟩
    replace hbg3 := hbg3.frm (ex := fun _ => False) (Frm.of_below b5) id
    replace hbt3 := hbt3.frm (ex := fun _ => False) (Frm.of_below b5) id
    replace ho1 := ho1.frm (ex := fun _ => False) (Frm.of_below b5) (fun _ _ => id)
    replace hB3 := hB3.trans (b5.mono hB3.size)
    replace hT4 := hT4.below b5
    clear b5 c0 c1 c2 t0 t1 t2 z0 z1 z2
    go_wp2_with fail
    with_reducible refine (ht3 _).mono ?_
    rintro e0 w6 ⟨rfl, b5⟩
    replace hbg3 := hbg3.frm (ex := fun _ => False) (Frm.of_below b5) id
    replace hbt3 := hbt3.frm (ex := fun _ => False) (Frm.of_below b5) id
    replace ho1 := ho1.frm (ex := fun _ => False) (Frm.of_below b5) (fun _ _ => id)
    replace hB3 := hB3.trans (b5.mono hB3.size)
    replace hT4 := hT4.below b5
    clear b5
    go_wp2_with fail
    with_reducible refine (htz _ hT4).mono ?_
    rintro e0 w' ⟨rfl, rfl⟩
    have t0 : w6.cell? ⟨G + 1, 0, none⟩ = some (.int .u8 0) := by rw [hbt3.cell]; rfl
    have t1 : w6.cell? ⟨G + 1, 1, none⟩ = some (.int .u8 0) := by rw [hbt3.cell]; rfl
    have t2 : w6.cell? ⟨G + 1, 2, none⟩ = some (.int .u8 0) := by rw [hbt3.cell]; rfl
    have z0 := hbt3.frozen 0
    have z1 := hbt3.frozen 1
    have z2 := hbt3.frozen 2
    go_wp2
    obtain ⟨b5, B5, o5⟩ := fin3 y0 y1 y2 hbt3 hB3 (by have := HG.out; omega) ho1 (fun q hq => by have := hv1 q hq; omega)
    refine bodyPost_ret (results_tctt rfl _ _ (G + 1) 23 #[.int .u8 y0, .int .u8 y1, .int .u8 y2] (0, 0) _ rfl b5 Tryd.underlying23 rfl (by kernel_rfl)) rfl ?_
    exact ⟨v1, sp1, by rw [htri2]; rfl, by rw [HL.out]; exact o5, fun q hq => by have := hv1 q hq; have := HG.out; omega, B5⟩
  · have h1 := E_tab ⟨m, hm⟩
    unfold placeB at h1
    simp only [Bool.and_eq_true, bne_iff_ne, beq_iff_eq] at h1
    rw [← h0] at h1
    obtain ⟨⟨⟨⟨ha, hb⟩, hc⟩, hd⟩, he⟩ := h1
    have hz : ¬ ((off : Nat) : Int) = 0 := by omega
    have hm1 := and_m1 off ha hol
    have hb' : ¬ ((off &&& (off - 1) : Nat) : Int) = 0 := by omega
    have hsp := and_sp off hol
    rw [hc] at hsp
    have hev := xor_ev off hol
    rw [hd] at hev
    have hbit : ∀ i, i < 11 → off / 2 ^ (2 * i + 1) % 2 = m / 2 ^ i % 2 := fun i hi => by rw [h0]; exact E_bits ⟨m, hm⟩ ⟨i, hi⟩
    have HO2 := Lib.hid h0
    clear h0 ha hb hc hd he
    generalize off &&& (off - 1) = q1 at hm1 hb'
    go_wp2
    have HBt := Lib.hid hbit
    clear hbit hm1 hev hsp hb'
    go_loopw [10, 56] (fun nv i wr => ∃ k : Nat, k ≤ 11 ∧ i = .int .i64 k ∧ nv = .int .i64 ((m % 2 ^ k : Nat) : Int) ∧ wr = w4) (fun _ i _ => 11 - (intI i))
    case atStart => exact ⟨0, by omega, rfl, by rw [show m % 2 ^ 0 = 0 by omega]; rfl, rfl⟩
    case round =>
      obtain ⟨k, hk, rfl, rfl, rfl⟩ := hrel
      by_cases hk1 : k < 11
      · have hmk : m % 2 ^ k < 2048 := Nat.lt_of_le_of_lt (Nat.mod_le _ _) hm
        go_wp2
        refine ⟨⟨k + 1, hk1, rfl, ?_, trivial⟩, by simp [intI]; omega⟩
        rw [dec_step m off k hk1 hm hol (HBt.out k hk1)]
      · obtain rfl : k = 11 := by omega
        have hmm : m % 2 ^ 11 = m := Nat.mod_eq_of_lt hm
        rw [hmm]
        obtain ⟨g1, cp1, rfl, hb1, hl1, hc1, hn1, hm1⟩ := ho1.blk (by omega)
        have hg1 : w2.heap.size ≤ g1 := hv1 g1 rfl
        have hk8 : m / 8 < l.length := by have := HL.out; omega
        have hcell : wr.cell? ⟨g1, m / 8, none⟩ = some (.int .u8 ((bt l (m / 8)).toNat : Int)) := by
          rw [hb1.cell, List.getElem?_append_left (by rw [u8s_length]; exact hk8), u8s_bt l _ hk8]
        have hfz := hb1.frozen (m / 8)
        have hxb := xor_bit (bt l (m / 8)) (m % 8) (by omega)
        have hlt8 : m / 8 < n := by omega
        have hbt8 := (bt l (m / 8)).toNat_lt
        go_wp2
        go_region
        have hfl : (flipB l m).length = l.length := flipB_len l m
        have hne1 : G ≠ g1 := by omega
        have hne2 : G + 1 ≠ g1 := by omega
        have hb2 := hb1.set_ (m / 8) (.int .u8 ((flipBit (bt l (m / 8)) (m % 8)).toNat : Int))
        have hg2 := hbg3.far (p := ⟨g1, m / 8, none⟩) hne1 (.int .u8 ((flipBit (bt l (m / 8)) (m % 8)).toNat : Int))
        have ht2 := hbt3.far (p := ⟨g1, m / 8, none⟩) hne2 (.int .u8 ((flipBit (bt l (m / 8)) (m % 8)).toNat : Int))
        have hB2 := below_frm hB3 hB3.size ((Frm.refl (fun q => q = g1) wr).setCell (p := ⟨g1, m / 8, none⟩) (fun _ => rfl) (.int .u8 ((flipBit (bt l (m / 8)) (m % 8)).toNat : Int))) (fun q hq => by rw [hq]; have := HG.out; omega)
        have hb3 : Blk (wr.setCell ⟨g1, m / 8, none⟩ (.int .u8 ((flipBit (bt l (m / 8)) (m % 8)).toNat : Int))).drew g1 5 (u8s (flipB l m) ++ sp1) := by
          rw [List.set_append_left _ _ (by rw [u8s_length]; exact hk8)] at hb2
          rw [show u8s (flipB l m) = (u8s l).set (m / 8) (.int .u8 ((flipBit (bt l (m / 8)) (m % 8)).toNat : Int)) from (u8s_set l (m / 8) (flipBit (bt l (m / 8)) (m % 8))).symm]
          exact hb2.drew
        replace hg2 := hg2.drew
        replace ht2 := ht2.drew
        replace hB2 : Below w.heap.size w (wr.setCell ⟨g1, m / 8, none⟩ (.int .u8 ((flipBit (bt l (m / 8)) (m % 8)).toNat : Int))).drew := ⟨hB2.os, hB2.tape, hB2.output, hB2.size, hB2.block⟩
        clear hb2 hb1 hbg3 hbt3 hB3 hcell hfz hxb hr4 hT4 ho1 c0 c1 c2 t0 t1 t2 z0 z1 z2
        generalize (wr.setCell ⟨g1, m / 8, none⟩ (.int .u8 ((flipBit (bt l (m / 8)) (m % 8)).toNat : Int))).drew = w5 at *
        have c0 : w5.cell? ⟨G, 0, none⟩ = some (.int .u8 x0) := by rw [hg2.cell]; rfl
        have c1 : w5.cell? ⟨G, 1, none⟩ = some (.int .u8 x1) := by rw [hg2.cell]; rfl
        have c2 : w5.cell? ⟨G, 2, none⟩ = some (.int .u8 x2) := by rw [hg2.cell]; rfl
        have t0 : w5.cell? ⟨G + 1, 0, none⟩ = some (.int .u8 0) := by rw [ht2.cell]; rfl
        have t1 : w5.cell? ⟨G + 1, 1, none⟩ = some (.int .u8 0) := by rw [ht2.cell]; rfl
        have t2 : w5.cell? ⟨G + 1, 2, none⟩ = some (.int .u8 0) := by rw [ht2.cell]; rfl
        have z0 := ht2.frozen 0
        have z1 := ht2.frozen 1
        have z2 := ht2.frozen 2
        go_wp2
        go_region_held3 (fun wx => wx.cell? ⟨G, 0, none⟩ = some (.int .u8 x0) ∧ wx.cell? ⟨G, 1, none⟩ = some (.int .u8 x1) ∧ wx.cell? ⟨G, 2, none⟩ = some (.int .u8 x2)) (go_keep) (fail)
        go_wp2
        obtain ⟨b5, B5, o5⟩ := fin3 (xs := u8s (flipB l m)) (sp := sp1) (n := n) (v1 := .slice (some ⟨g1, 0, none⟩) n cp1) x0 x1 x2 ht2 hB2 (by have := HG.out; omega) (.inr ⟨g1, cp1, rfl, hb3, by rw [u8s_length, hfl, HL.out]; omega, by rw [u8s_length, hfl, ← u8s_length]; exact hc1, hn1, hm1⟩) (fun q hq => by have e : g1 = q := Option.some.inj hq; omega)
        refine bodyPost_ret (results_tctt rfl _ _ (G + 1) 23 #[.int .u8 x0, .int .u8 x1, .int .u8 x2] (0, 0) _ rfl b5.drew Tryd.underlying23 rfl (by kernel_rfl)) rfl ?_
        exact ⟨_, sp1, by rw [htri]; rfl, by rw [hfl, HL.out]; exact o5.drew, fun q hq => by have e : g1 = q := Option.some.inj hq; have := HG.out; omega, ⟨B5.os, B5.tape, B5.output, B5.size, B5.block⟩⟩
  · unfold badB at h0
    simp only [Bool.and_eq_true, bne_iff_ne, Bool.not_eq_true', Bool.and_eq_false_iff, beq_eq_false_iff_ne] at h0
    obtain ⟨⟨ha, hb⟩, hc⟩ := h0
    have hz : ¬ ((off : Nat) : Int) = 0 := by omega
    have hm1 := and_m1 off ha hol
    have hsp := and_sp off hol
    have hev := xor_ev off hol
    have hb' : ¬ ((off &&& (off - 1) : Nat) : Int) = 0 := by omega
    have hc' : ¬ ((off &&& 12582912 : Nat) : Int) = 0 ∨ ¬ (((off &&& 1398101) ^^^ (off / 2 &&& 1398101) : Nat) : Int) = 1398101 := by omega
    have hst3 : True := trivial
    clear hb ha hc
    generalize off &&& (off - 1) = q1 at hm1 hb'
    generalize off &&& 12582912 = q2 at hsp hc'
    generalize (off &&& 1398101) ^^^ (off / 2 &&& 1398101) = q3 at hev hc'
    by_cases hq2 : ((q2 : Nat) : Int) = 0
    · have hq3 : ¬ ((q3 : Nat) : Int) = 1398101 := by omega
      clear hc'
      go_wp2
      obtain ⟨b5, B5, o5⟩ := fin3 (v1 := .slice none 0 0) (n := 0) (xs := []) (sp := []) 0 0 0 hbt3 hB3 (by have := HG.out; omega) (.inl ⟨rfl, rfl, rfl, rfl⟩) (fun q hq => by cases hq)
      refine bodyPost_ret (results_tctt rfl _ _ (G + 1) 23 #[.int .u8 0, .int .u8 0, .int .u8 0] (0, 0) _ rfl b5 Tryd.underlying23 rfl (by kernel_rfl)) rfl ?_
      exact ⟨.slice none 0 0, [], rfl, o5, (fun q hq => by cases hq), B5⟩
    · clear hc'
      go_wp2
      obtain ⟨b5, B5, o5⟩ := fin3 (v1 := .slice none 0 0) (n := 0) (xs := []) (sp := []) 0 0 0 hbt3 hB3 (by have := HG.out; omega) (.inl ⟨rfl, rfl, rfl, rfl⟩) (fun q hq => by cases hq)
      refine bodyPost_ret (results_tctt rfl _ _ (G + 1) 23 #[.int .u8 0, .int .u8 0, .int .u8 0] (0, 0) _ rfl b5 Tryd.underlying23 rfl (by kernel_rfl)) rfl ?_
      exact ⟨.slice none 0 0, [], rfl, o5, (fun q hq => by cases hq), B5⟩
end Go.Proofs.YtafjnkmfebibfaaDoor
