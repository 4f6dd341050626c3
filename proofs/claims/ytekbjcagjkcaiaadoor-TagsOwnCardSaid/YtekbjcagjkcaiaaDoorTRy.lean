/- Walks of rail.Size, slices.Clone, rail.Lay. -/
import Derived.Test.YtekbjcagjkcaiaaDoorTh
namespace Go.Proofs.YtekbjcagjkcaiaaDoor
open Go.RowKit
set_option linter.unusedVariables false
set_option linter.unusedSimpArgs false
/-- The table of layings holds. -/
def SpT (w : World) : Prop := ∀ i, i < 16 → w.cell? ⟨1, i, none⟩ = some (.int .u8 ((sprT i : Nat) : Int))
theorem SpT.pos {w : World} (h : SpT w) : 1 < w.heap.size := World.block_lt_of_cell? w _ (h 0 (by decide))
theorem SpT.belowB {B : Nat} {w w' : World} (h : SpT w) (hb : Below B w w') (h0 : 1 < B) : SpT w' := fun i hi => by
  rw [hb.cell (p := ⟨1, i, none⟩) h0]; exact h i hi
theorem SpT.frm {ex : Nat → Prop} {w w' : World} (h : SpT w) (hf : Frm ex w w') (h0 : ¬ ex 1) : SpT w' := fun i hi => by
  rw [hf.cell (p := ⟨1, i, none⟩) h.pos h0]; exact h i hi
theorem SpT.below {w w' : World} (h : SpT w) (hb : Below w.heap.size w w') : SpT w' := fun i hi => by
  rw [hb.cell (p := ⟨1, i, none⟩) h.pos]; exact h i hi
theorem one_two (x y : Int) : ∀ u ∈ [Value.int .u8 x, Value.int .u8 y], u.oneCell' = true := by
  intro u hu
  simp only [List.mem_cons, List.not_mem_nil, or_false] at hu
  rcases hu with rfl | rfl <;> rfl
set_option maxHeartbeats 800000 in
theorem Size_any (x : Int) (w : World) (h1 : -9223372036854775808 ≤ x) (h2 : x ≤ 9223372036854775807) :
    Calls Tryd.prog 52 #[.int .i64 x] w fun e w' => e = .returned (.tuple #[.int .i64 (sizeR x).1, .int .i64 (sizeR x).2]) ∧ w = w' := by
  unfold sizeR
  by_cases h0 : x < 0
  · rw [if_pos (.inl h0)]
    go_enter Tryd.func52, Tryd.ntmps52
    go_wp2
    go_ret2
    exact ⟨rfl, rfl⟩
  · by_cases h3 : 4095 < x
    · rw [if_pos (.inr h3)]
      go_enter Tryd.func52, Tryd.ntmps52
      go_wp2
      go_ret2
      exact ⟨rfl, rfl⟩
    · rw [if_neg (by omega)]
      go_enter Tryd.func52, Tryd.ntmps52
      go_wp2
      go_ret2
      exact ⟨rfl, rfl⟩
theorem eqIn_nil (d : Nat) (a : Option Addr) (l c : Nat) (w : World) : (Op.equalIn (d + 1) 22 (.slice a l c) (.slice none 0 0)).run Tryd.prog w = .ok a.isNone w := by
  cases a <;> simp [Op.equalIn, run_underlying Tryd.underlying22]
theorem slice_nil (a : Option Addr) (l c : Nat) (w : World) : (binOp .eql 22 (.slice a l c) (.slice none 0 0)).run Tryd.prog w = .ok (.bool a.isNone) w := by
  have h : (Op.equal 22 (.slice a l c) (.slice none 0 0)).run Tryd.prog w = .ok a.isNone w := eqIn_nil 9999 a l c w
  simp only [binOp]
  simp [h]
set_option maxHeartbeats 1600000 in
theorem Clone_any (A : Option Addr) (n cap : Nat) (l : List UInt8) (w : World) (hl : l.length = n) (hr : Rd w A (u8s l)) (hm : n ≤ 140737488351232) :
    Calls Tryd.prog 53 #[.slice A n cap] w fun e w' => ∃ v sp, e = .returned v ∧ Owx w' 5 1 v n (u8s l) sp ∧ (∀ q, v.ownBlock = some q → w.heap.size ≤ q) ∧ Below w.heap.size w w' := by
  have HL := Lib.hid hl
  clear hl
  rcases A with _ | ad
  · have hl0 : l = [] := by
      cases l with
      | nil => rfl
      | cons b r => obtain ⟨ad, h, _⟩ := hr (by simp [u8s]); cases h
    subst hl0
    obtain rfl : n = 0 := HL.out.symm
    have hnil := slice_nil none 0 cap
    simp only [Option.isNone_none] at hnil
    go_enter Tryd.func53, Tryd.ntmps53
    go_wp2
    go_ret
    exact ⟨_, [], rfl, .inl ⟨rfl, rfl, rfl, rfl⟩, (fun q hq => by cases hq), Below.refl _ _⟩
  · have h0 : Own (w.alloc (.cells #[] 5)) 5 1 (.slice (some ⟨w.heap.size, 0, none⟩) 0 0) 0 [] [] := Own.new w 5 1 0 [] rfl (Nat.zero_le _)
    have hnil := slice_nil (some ad) n cap
    simp only [Option.isNone_some] at hnil
    have hr1 : Rd (w.alloc (.cells #[] 5)) (some ad) (u8s l) := hr.below ((Below.refl _ _).alloc (Nat.le_refl _) _)
    go_enter Tryd.func53, Tryd.ntmps53
    go_wp2_with (at_builtin; refine wpList_app _ rfl (.tmp 5) (.tmp 6) 22 rfl 5 _ 1 1 Tryd.underlying22 info5 rfl (by decide) rfl h0 rfl (by rw [u8s_length, HL.out]; exact (Nat.mul_one _).symm) hr1 (one_u8s l) (by unfold maxLen; omega) (by omega) ?_; intro v1 w1 sp1 ho1 hy1)
    simp only [Nat.zero_add, List.nil_append] at ho1
    have f1 := fresh_app (B := w.heap.size) (by simp) (by intro k hk; cases hk; exact Nat.le_refl _) hy1.at_
    have b1 : Below w.heap.size w w1 := below_frm ((Below.refl _ w).alloc (Nat.le_refl _) (.cells #[] 5)) (by simp) hy1.frm (by intro k hk; cases hk; exact Nat.le_refl _)
    go_wp2
    go_ret
    exact ⟨_, sp1, rfl, .of_own ho1, f1, b1⟩
set_option maxRecDepth 100000 in
set_option maxHeartbeats 3200000 in
theorem Lay_any (A : Option Addr) (n cap : Nat) (l : List UInt8) (w : World) (hl : l.length = n) (hr : Rd w A (u8s l)) (hm : n ≤ 140737488351232) (hT : SpT w) :
    Calls Tryd.prog 36 #[.slice A n cap] w fun e w' => ∃ v sp, e = .returned (.tuple #[v, .int .i64 (layR l).2]) ∧ Owx w' 5 1 v (layR l).1.length (u8s (layR l).1) sp ∧ (∀ q, v.ownBlock = some q → w.heap.size ≤ q) ∧ Below w.heap.size w w' := by
  unfold layR
  by_cases hbig : 4095 < n
  · rw [hl, if_pos hbig]
    have hs : ∀ wx, Calls Tryd.prog 52 #[.int .i64 (n : Int)] wx fun e w' => e = .returned (.tuple #[.int .i64 0, .int .i64 31]) ∧ wx = w' := fun wx => by
      have h := Size_any (n : Int) wx (by omega) (by omega)
      unfold sizeR at h
      rw [if_pos (.inr (by omega))] at h
      exact h
    clear hl
    go_enter Tryd.func36, Tryd.ntmps36
    go_wp2_with (go_at_call 52; refine (hs _).mono ?_; rintro e w' ⟨rfl, rfl⟩)
    go_ret2
    exact ⟨_, [], rfl, .inl ⟨rfl, rfl, rfl, rfl⟩, (fun q hq => by cases hq), Below.refl _ _⟩
  · rw [hl, if_neg hbig]
    have hs : ∀ wx, Calls Tryd.prog 52 #[.int .i64 (n : Int)] wx fun e w' => e = .returned (.tuple #[.int .i64 (2 * ((n : Int) + 1)), .int .i64 0]) ∧ wx = w' := fun wx => by
      have h := Size_any (n : Int) wx (by omega) (by omega)
      unfold sizeR at h
      rw [if_neg (by omega)] at h
      exact h
    have HL := Lib.hid hl
    clear hl
    obtain ⟨B, hB⟩ : ∃ B, B = w.heap.size := ⟨_, rfl⟩
    obtain ⟨w1, sp1, hmk, ho1, hf1⟩ := own_makeg w 22 5 _ Tryd.underlying22 info5 (2 * (n + 1)) (2 * ((n : Int) + 1)) (by omega) (by omega)
    have hbl1 : Below B w w1 := by rw [hB]; exact hf1.below (Nat.le_refl _) (fun _ _ h => h)
    have hr1 : Rd w1 A (u8s l) := hr.below (hf1.below (Nat.le_refl _) (fun _ _ h => h))
    have hB0 : 1 < B := by rw [hB]; exact hT.pos
    have hB1 : B < w1.heap.size := by rw [hB]; exact ho1.lt _ rfl
    have hs1 := hf1.size
    rw [← hB] at hmk ho1 hs1
    have HB := Lib.hid hB
    have HT := Lib.hid hT
    rw [← hB]
    clear hB hf1 hT hr
    go_enter Tryd.func36, Tryd.ntmps36
    go_wp2_with (go_at_call 52; refine (hs _).mono ?_; rintro e w' ⟨rfl, rfl⟩)
    with_reducible refine (Clone_any A n cap l _ HL.out hr1 hm).mono ?_
    rintro e w2 ⟨v2, sp2, rfl, o2, f2, b2⟩
    obtain ⟨A2, c2, rfl, hc2, _⟩ := o2.rd
    have o2c := o2.clip rfl
    have hcm : c2 ≤ maxLen := by
      rcases o2 with ⟨h, _⟩ | ⟨g, c, h, _, _, _, _, h2⟩
      · cases h; exact Nat.zero_le _
      · cases h; exact h2
    have f2' : ∀ q, (Value.slice A2 n n).ownBlock = some q → w1.heap.size ≤ q := by cases A2 with | none => (intro q hq; cases hq) | some ad => exact f2
    have o1 := (Owx.of_own ho1).bel b2
    have r2 := hr1.below b2
    have bl2 := hbl1.trans (b2.mono hs1)
    clear o2 f2 ho1 hr1 hmk
    go_wp2_with fail
    with_reducible refine (Clip_any A2 n c2 _ hc2 hcm).mono ?_
    rintro e w' ⟨rfl, rfl⟩
    go_wp2_with fail
    with_reducible refine (cols_any A n cap l _ HL.out r2 (by omega)).mono ?_
    rintro e w' ⟨rfl, rfl⟩
    clear hcm hc2 r2
    go_wp2_with (at_builtin; refine wpList_appx _ rfl (.tmp 22) (.tmp 25) 22 rfl 5 _ 1 1 Tryd.underlying22 info5 rfl (by decide) rfl (o2c.alloc _) rfl rfl (rd_one _ _ _) (one_int _ _) (by unfold maxLen; omega) (by omega) ?_; intro v3 w3 sp3 ho3 hy3; obtain ⟨A3, c3, rfl, hc3, r3⟩ := ho3.rd; have hy : Lay (w2.alloc (.cells #[.int .u8 ((colsB l).toNat : Int)] 5)) w3 (.slice A2 n n) (.slice A3 (n + 1) c3) := hy3; clear hy3)
    have hf3 : Frm (fun k => w1.heap.size ≤ k) w2 w3 := ((Frm.refl _ w2).alloc _).trans (hy.frm.mono (fun k _ hk => f2' k hk))
    have o3 := o1.frm hf3 (fun k hk => by have h : B = k := Option.some.inj hk; omega)
    have bl3 : Below B w w3 := below_frm bl2 (by have := b2.size; omega) hf3 (fun q hq => by omega)
    have hT3 : SpT w3 := HT.out.belowB bl3 hB0
    have hA3 : ∀ ad, A3 = some ad → ad.block ≠ B := fun ad e => by
      subst e
      rcases hy.at_ with h | h
      · have := f2' ad.block h.symm; omega
      · have h2 : ad.block = w2.heap.size + 1 := by have := Option.some.inj h; simpa using this
        have := b2.size
        omega
    have hs3 : B < w3.heap.size := by have := hf3.size; have := b2.size; omega
    rw [show u8s l ++ [.int .u8 ((colsB l).toNat : Int)] = u8s (withC l) by rw [withC, u8s_append]; rfl] at r3
    have hwl : (withC l).length = n + 1 := by rw [withC_len, HL.out]
    have HW := Lib.hid hwl
    have HT3 := Lib.hid hT3
    clear hy hf3 f2' o2c ho3 b2 o1 bl2 hwl hT3
    have hlay : layB l = layAll (withC l) := rfl
    have HLY := Lib.hid hlay
    clear hlay
    generalize withC l = lc at *
    go_loopw [6, 28] (fun v i wr => ∃ k : Nat, k ≤ n + 1 ∧ i = .int .i64 k ∧ (∃ sp, Owx wr 5 1 v (2 * k) (u8s (layAll (lc.take k))) sp) ∧ (∀ q, v.ownBlock = some q → q = B ∨ w3.heap.size ≤ q) ∧ Frm (fun q => q = B) w3 wr) (fun _ i _ => n + 1 - (intI i))
    case atStart => exact ⟨0, by omega, rfl, ⟨sp1, o3⟩, (fun q hq => .inl (Option.some.inj hq).symm), Frm.refl _ _⟩
    case round =>
      obtain ⟨k, hk, rfl, ⟨sp, ho⟩, hfr, hbl⟩ := hrel
      by_cases hlt : k < n + 1
      · have r4 : Rd wr A3 (u8s lc) := r3.frm hbl hA3
        have hT4 : SpT wr := HT3.out.frm hbl (by omega)
        obtain ⟨ad, rfl, hc⟩ := r4.at_ (k := k) (u8s_bt lc k (by have := HW.out; omega))
        have hsz := hbl.size
        have hbb := (bt lc k).toNat_lt
        obtain ⟨j1, hj1⟩ : ∃ j1, j1 = (bt lc k).toNat % 16 := ⟨_, rfl⟩
        obtain ⟨j2, hj2⟩ : ∃ j2, j2 = (bt lc k).toNat / 16 := ⟨_, rfl⟩
        have hx1 : Go.bits .and .u8 ((bt lc k).toNat : Int) 15 = (j1 : Int) := by
          rw [show (15 : Int) = ((15 : Nat) : Int) from rfl, u8_and_nat _ _ (bt lc k).toNat_lt (by decide), show (15 : Nat) = 2 ^ 4 - 1 from rfl, Nat.and_two_pow_sub_one_eq_mod, hj1]
        have hx2 : ((bt lc k).toNat : Int) / 16 = (j2 : Int) := by rw [hj2]; rfl
        have c1 := hT4 j1 (by omega)
        have c2' := hT4 j2 (by omega)
        have hl1 : (j1 : Int) < 16 := by omega
        have hl2 : (j2 : Int) < 16 := by omega
        have hst : layAll (lc.take (k + 1)) = layAll (lc.take k) ++ layTwo (bt lc k) := layAll_step lc k (by have := HW.out; omega)
        have htw : u8s (layTwo (bt lc k)) = [.int .u8 ((sprT j1 : Nat) : Int), .int .u8 ((sprT j2 : Nat) : Int)] := by
          rw [hj1, hj2]; simp only [u8s, layTwo, List.map_cons, List.map_nil, bv, sp4_nat]
        have HST := Lib.hid hst
        have HTW := Lib.hid htw
        clear hst htw hj1 hj2 hT4 r4
        go_wp2
        go_region_law (refine step_appx _ (by rfl) _ _ 22 (by rfl) 5 _ 1 1 Tryd.underlying22 info5 rfl (by decide) (by rfl) (ho.alloc _).drew (by rfl) (by rfl) (rd_new _ _ [.int .u8 ((sprT j1 : Nat) : Int), .int .u8 ((sprT j2 : Nat) : Int)]).drew (one_two _ _) (by unfold maxLen; omega) (by omega) ?_; intro v5 w5 sp5 ho5 hy5)
        all_goals
          have hy : Lay (wr.drew.alloc (.cells #[.int .u8 ((sprT j1 : Nat) : Int), .int .u8 ((sprT j2 : Nat) : Int)] 5)) w5 u6 v5 := hy5
          have hal : Frm (fun q => q = B) w3 (wr.drew.alloc (.cells #[.int .u8 ((sprT j1 : Nat) : Int), .int .u8 ((sprT j2 : Nat) : Int)] 5)) := hbl.drew.alloc _
          have h6 : Frm (fun q => q = B) w3 w5 := hal.trans2 hy.frm (fun q hq hl => by rcases hfr q hq with h | h; exact h; omega)
          have f6 : ∀ q, v5.ownBlock = some q → q = B ∨ w3.heap.size ≤ q := fun q hq => by
            rcases hy.at_ with h | h
            · exact hfr q (h ▸ hq)
            · rw [hq] at h
              have h2 : q = wr.heap.size + 1 := by have := Option.some.inj h; simpa using this
              omega
          clear ho hy hy5 hal
          go_wp2
          go_roundw
          case rel => exact ⟨k + 1, by omega, by go_num, ⟨sp5, by rw [HST.out, u8s_append, HTW.out]; exact ho5⟩, f6, h6⟩
          case measure => simp [intI]; omega
      · obtain rfl : k = n + 1 := by omega
        rw [List.take_of_length_le (by have := HW.out; omega)] at ho
        have hbe := bl3.trans (hbl.below (Nat.le_of_lt hs3) (fun q hq => by omega))
        go_wp2
        go_ret2
        have hll : (layB l).length = 2 * (n + 1) := by rw [layB_len, HL.out]; omega
        refine ⟨_, sp, rfl, ?_, fun q hq => ?_, ?_⟩
        · rw [hll, HLY.out]; exact ho
        · have := HB.out; rcases hfr q hq with h | h <;> omega
        · exact hbe
end Go.Proofs.YtekbjcagjkcaiaaDoor
