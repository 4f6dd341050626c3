/- The walk of rail.Read. -/
import Derived.Test.YtekbjcagjkcaiaaDoorTh
namespace Go.Proofs.YtekbjcagjkcaiaaDoor
open Go.RowKit
set_option linter.unusedVariables false
set_option linter.unusedSimpArgs false
theorem run_makeN (w : World) (t e : TypeId) (z : Value) (ht : Tryd.prog.underlying t = some (.slice e)) (hinfo : (Tryd.prog.info? e).map (fun i => (i.zero, i.size, i.bytes)) = some (some z, 1, 1)) (hz1 : z.cells = #[z]) (m : Nat) (x : Int) (hx : x = m) (hm : m ≤ 281474976710656) :
    (Instr.makeSlice t (.int .i64 x) (.int .i64 x)).run Tryd.prog w = .ok (.slice (some ⟨w.heap.size, 0, none⟩) m m) (w.alloc (.cells (List.replicate m z).toArray e)) := by
  obtain ⟨i, hi, hz, hsize, hby⟩ := info_parts hinfo
  subst hx
  have h := run_make (P := Tryd.prog) w t e i z ht hi hz .i64 .i64 (m : Int) (m : Int) (by omega) (Int.le_refl _) (by rw [hby]; omega) (by omega)
  rw [h, hsize, Int.toNat_natCast, Nat.mul_one, hz1]
  congr 3
  apply Array.ext'
  unfold madeCells
  apply List.ext_getElem
  · simp
  · intro i h1 h2
    simp [Nat.mod_one]
theorem onesB_any (b : UInt8) (w : World) :
    Calls Tryd.prog 45 #[.int .u8 ((brkN b.toNat : Nat) : Int)] w fun e w' => e = .returned (.int .i64 ((cntN (brkN b.toNat) : Nat) : Int)) ∧ w = w' := by
  have h := ones8_any (UInt8.ofNat (brkN b.toNat)) w
  have e : (UInt8.ofNat (brkN b.toNat)).toNat = brkN b.toNat := UInt8.toNat_ofNat_of_lt' (brkN_lt _)
  have e2 : pop (UInt8.ofNat (brkN b.toNat)) = cntN (brkN b.toNat) := by
    rw [← pop_brk b]
    unfold pop popN
    rw [e]
  rw [e, e2] at h
  exact h
/-- What a reading's results are in memory. -/
def RdP (R : List UInt8 × Int × Int) (w : World) (e : Ending) (w' : World) : Prop :=
  ∃ v sp, e = .returned (.tuple #[v, .int .i64 R.2.1, .int .i64 R.2.2]) ∧ Owx w' 5 1 v R.1.length (u8s R.1) sp ∧ (∀ q, v.ownBlock = some q → w.heap.size ≤ q) ∧ Below w.heap.size w w'
theorem RdP.err {R : List UInt8 × Int × Int} {w w' : World} {c : Int} (hR : R = ([], 0, c)) (hb : Below w.heap.size w w') : RdP R w (.returned (.tuple #[.slice none 0 0, .int .i64 0, .int .i64 c])) w' := by
  subst hR
  exact ⟨_, [], rfl, .inl ⟨rfl, rfl, rfl, rfl⟩, (fun q hq => by cases hq), hb⟩
theorem RdP.ok {l O : List UInt8} {t : Int} {m B : Nat} {w w' : World} (hE : readR l = (O.take (m - 1), t, 0)) (hO : O.length = m) (h1 : 1 ≤ m) (hm : m ≤ maxLen) (hb : Blk w' B 5 (u8s O)) (hB : B = w.heap.size) (hbl : Below B w w') :
    RdP (readR l) w (.returned (.tuple #[.slice (some ⟨B, 0, none⟩) (m - 1) (m - 1), .int .i64 t, .int .i64 0])) w' := by
  rw [hE]
  have hl : (O.take (m - 1)).length = m - 1 := by rw [List.length_take]; omega
  refine ⟨_, u8s (O.drop (m - 1)), rfl, ?_, fun q hq => ?_, by rw [← hB]; exact hbl⟩
  · rw [hl]
    refine .inr ⟨B, m - 1, rfl, ?_, by rw [u8s_length, hl]; omega, by rw [u8s_length, u8s_length, hl]; omega, Nat.le_refl _, by omega⟩
    rw [← u8s_append, List.take_append_drop]
    exact hb
  · have : B = q := Option.some.inj hq
    omega
/-- What the pointer to the broken pair holds. -/
def OneP (wr : World) (G : Nat) (o : Value) : Option Nat → Prop
  | none => o = .pointer none
  | some p => ∃ g, o = .pointer (some ⟨g, 0, none⟩) ∧ g ≠ G ∧ Blk wr g 87 [.int .i64 (p : Int), .int .i64 ((p / 8 : Nat) : Int), .int .i64 ((p % 8 : Nat) : Int)]
theorem OneP.frm {wr w' : World} {G : Nat} {o : Value} {q : Option Nat} (h : OneP wr G o q) (hf : Frm (fun k => k = G) wr w') : OneP w' G o q := by
  cases q with
  | none => exact h
  | some p =>
    obtain ⟨g, h1, h2, h3⟩ := h
    exact ⟨g, h1, h2, h3.frm hf h2⟩

theorem OneP.drew {wr : World} {G : Nat} {o : Value} {q : Option Nat} (h : OneP wr G o q) : OneP wr.drew G o q := by
  cases q with
  | none => exact h
  | some p => exact h
theorem OneP.alloc {wr : World} {G : Nat} {o : Value} {q : Option Nat} (h : OneP wr G o q) (ob : Obj) : OneP (wr.alloc ob) G o q := by
  cases q with
  | none => exact h
  | some p =>
    obtain ⟨g, h1, h2, h3⟩ := h
    exact ⟨g, h1, h2, h3.alloc ob⟩
theorem brk_tab : ∀ b : Fin 256, Go.bits .and .u8 (Go.bits .xor .u8 IntKind.u8.max (Go.bits .xor .u8 (b.val : Int) ((b.val : Int) / 2))) 85 = ((brkN b.val : Nat) : Int) := by decide +kernel
set_option maxRecDepth 100000 in
set_option maxHeartbeats 6400000 in
theorem Read_any (A : Option Addr) (n cap : Nat) (l : List UInt8) (w : World) (hl : l.length = n) (hr : Rd w A (u8s l)) (hm : n ≤ 140737488355328) :
    Calls Tryd.prog 30 #[.slice A n cap] w (RdP (readR l) w) := by
  by_cases hbad : n < 2 ∨ n % 2 ≠ 0 ∨ 8192 < n
  · have hR : readR l = ([], 0, 31) := by unfold readR; rw [hl, if_pos hbad]
    clear hl
    have HR := Lib.hid hR
    clear hR
    by_cases h1 : n < 2
    · go_enter Tryd.func30, Tryd.ntmps30
      go_wp2
      go_ret3
      exact RdP.err HR.out (Below.refl _ _)
    · by_cases h2 : (n : Int) % 2 = 0
      · have h3 : 8192 < n := by omega
        go_enter Tryd.func30, Tryd.ntmps30
        go_wp2
        go_ret3
        exact RdP.err HR.out (Below.refl _ _)
      · go_enter Tryd.func30, Tryd.ntmps30
        go_wp2
        go_ret3
        exact RdP.err HR.out (Below.refl _ _)
  · have h1 : ¬ n < 2 := fun h => hbad (.inl h)
    have h2 : n % 2 = 0 := Decidable.byContradiction (fun h => hbad (.inr (.inl h)))
    have h3 : ¬ 8192 < n := fun h => hbad (.inr (.inr h))
    have hR : readR l = endR l (scanR l n) := by
      unfold readR; rw [hl, if_neg hbad]
    clear hbad
    obtain ⟨m, rfl⟩ : ∃ m, n = 2 * m := ⟨n / 2, by omega⟩
    have HL := Lib.hid hl
    have HR := Lib.hid hR
    have h4 : (2 * (m : Int)) % 2 = 0 := by omega
    have h5 : (2 * (m : Int)) / 2 = m := by omega
    clear hl hR h2
    obtain ⟨w1, hw1⟩ : ∃ w1, w1 = w.alloc (.cells (List.replicate m (.int .u8 0)).toArray 5) := ⟨_, rfl⟩
    have hmk := run_makeN w 22 5 _ Tryd.underlying22 info5 rfl m (m : Int) rfl (by omega)
    rw [← hw1] at hmk
    have hlow : u8s (lowK l 0) = List.replicate m (.int .u8 0) := by
      rw [lowK_zero, HL.out, show 2 * m / 2 = m by omega]
      apply List.ext_getElem
      · simp [u8s, gen]
      · intro i a1 a2; simp [u8s, gen, bv]
    have hG : Blk w1 w.heap.size 5 (u8s (lowK l 0)) := by rw [hw1, hlow]; exact Blk.new w _ _
    have hb1 : Below w.heap.size w w1 := by rw [hw1]; exact (Below.refl _ w).alloc (Nat.le_refl _) _
    obtain ⟨B, hB⟩ : ∃ B, B = w.heap.size := ⟨_, rfl⟩
    rw [← hB] at hmk hG hb1
    have HB := Lib.hid hB
    clear hw1 hlow hB
    go_enter Tryd.func30, Tryd.ntmps30
    go_wp2_with fail
    clear h4 h5 hmk
    go_loopw [6, 33] (fun o i wr => ∃ (k : Nat) (q : Option Nat), k ≤ 2 * m ∧ i = .int .i64 (k : Nat) ∧ Hid (scanR l k = some q) ∧ OneP wr B o q ∧ Blk wr B 5 (u8s (lowK l k)) ∧ Below B w wr) (fun _ i _ => 2 * m - (intI i))
    case atStart => exact ⟨0, none, by omega, rfl, Lib.hid rfl, rfl, hG, hb1⟩
    case round =>
      obtain ⟨k, q, hk, rfl, hsc, hone, hblk, hbl⟩ := hrel
      clear hG hb1
      by_cases hlt : k < 2 * m
      · have r4 : Rd wr A (u8s l) := hr.below (by rw [← HB.out]; exact hbl)
        obtain ⟨ad, rfl, hc⟩ := r4.at_ (k := k) (u8s_bt l k (by have := HL.out; omega))
        have hbb := (bt l k).toNat_lt
        have hlk : k / 2 < (lowK l k).length := by rw [lowK_len, HL.out]; omega
        have hc0 : wr.cell? ⟨B, k / 2, none⟩ = some (.int .u8 ((bt (lowK l k) (k / 2)).toNat : Int)) := by rw [hblk.cell, u8s_bt _ _ hlk]
        have hz := hblk.frozen (k / 2)
        have hst := lowK_step l k (by have := HL.out; omega) (by rw [HL.out]; omega)
        obtain ⟨hlow, hlo16⟩ := low_step l k
        have hbt : bt (lowK l k) (k / 2) = lowF l k (k / 2) := by unfold lowK; exact bt_gen _ _ _ (by rw [HL.out]; omega)
        rw [hbt] at hc0
        have hk2 : k / 2 < m := by omega
        have hblk2 := hblk.set_ (k / 2) (bv (lowF l (k + 1) (k / 2)))
        rw [u8s_set, hst] at hblk2
        have hfr2 := (Frm.refl (fun q => q = B) wr).setCell (p := ⟨B, k / 2, none⟩) (fun _ => rfl) (bv (lowF l (k + 1) (k / 2)))
        have hone2 := hone.frm hfr2
        have hbl2 : Below B w (wr.setCell ⟨B, k / 2, none⟩ (bv (lowF l (k + 1) (k / 2)))) := below_frm hbl (by have := hblk.lt; omega) hfr2 (fun q hq => by rw [hq]; exact Nat.le_refl _)
        have hnb := nibN_lt (bt l k).toNat
        have HLOW := Lib.hid hlow
        obtain ⟨j, hj⟩ : ∃ j, j = k / 2 := ⟨_, rfl⟩
        obtain ⟨r, hrr⟩ : ∃ r, r = k % 2 := ⟨_, rfl⟩
        obtain ⟨e4, he4⟩ : ∃ e4, e4 = 4 * r := ⟨_, rfl⟩
        rw [← hj] at hc0 hz hk2 hblk2 hone2 hbl2 HLOW hlo16
        have hw1 : IntKind.i64.wrap ((k : Int) / 2) = (j : Int) := by rw [hj]; exact IntWalk.i64_in _ (by omega)
        have hw3 : IntKind.i64.wrap (4 * (k : Int).tmod 2) = (e4 : Int) := by
          rw [show (k : Int).tmod 2 = (r : Int) by rw [hrr]; exact Int.tmod_eq_emod_of_nonneg (by omega), he4]; exact IntWalk.i64_in _ (by omega)
        have hval : Go.bits .or .u8 ((lowF l k j).toNat : Int) (IntKind.u8.wrap (((nibN (bt l k).toNat : Nat) : Int) * 2 ^ e4)) = ((lowF l (k + 1) j).toNat : Int) := by
          have hp : (2 : Nat) ^ e4 ≤ 16 := Nat.pow_le_pow_right (n := 2) (by decide) (show e4 ≤ 4 by omega)
          have hp2 : nibN (bt l k).toNat * 2 ^ e4 ≤ 15 * 16 := Nat.mul_le_mul (by omega) hp
          have e1 : ((nibN (bt l k).toNat : Nat) : Int) * 2 ^ e4 = ((nibN (bt l k).toNat * 2 ^ e4 : Nat) : Int) := by simp
          rw [e1, IntWalk.u8_in _ (by omega), u8_or_nat _ _ (lowF l k j).toNat_lt (by omega), HLOW.out, he4, hrr]
        have HJ := Lib.hid hj
        have HRR := Lib.hid hrr
        have HE4 := Lib.hid he4
        have he4b : e4 ≤ 4 := by omega
        clear hst hbt hlow hfr2 hblk hbl hone r4 hr hj hrr he4
        go_upto_region 9 with fail
        refine wp_region_still_tail 13 (by kernel_rfl) (by kernel_rfl) ?_
        simp only [List.take_succ_cons, List.take_zero, List.drop_succ_cons, List.drop_zero]
        repeat still_step
        still_call (back_same (nibble_any (bt l k) _))
        repeat still_step
        refine wpStill_nil ?_
        change wpList _ _ _ _ _ wr.drew
        go_wp2_with fail
        rw [show Go.bits .and .u8 (Go.bits .xor .u8 IntKind.u8.max (Go.bits .xor .u8 ((bt l k).toNat : Int) (((bt l k).toNat : Int) / 2))) 85 = ((brkN (bt l k).toNat : Nat) : Int) from brk_tab ⟨(bt l k).toNat, (bt l k).toNat_lt⟩]
        obtain ⟨wv, hwv⟩ : ∃ wv, wv = (wr.setCell ⟨B, j, none⟩ (.int .u8 ((lowF l (k + 1) j).toNat : Int))).drew := ⟨_, rfl⟩
        have hone3 : OneP wv B u6 q := by rw [hwv]; exact hone2.drew
        have hblk3 : Blk wv B 5 (u8s (lowK l (k + 1))) := by rw [hwv]; exact hblk2
        have hbl3 : Below B w wv := by rw [hwv]; exact bel_drew hbl2
        rw [← hwv]
        clear hwv hone2 hblk2 hbl2 hw1 hw3 hval hz hc0
        with_reducible refine (onesB_any (bt l k) _).mono ?_
        rintro e w' ⟨rfl, rfl⟩
        obtain ⟨c, hcd⟩ : ∃ c, c = cntN (brkN (bt l k).toNat) := ⟨_, rfl⟩
        rw [← hcd]
        have hc4 : c ≤ 4 := by rw [hcd]; exact cntN_le _
        have HC := Lib.hid hcd
        clear hcd
        by_cases hc0 : c = 0
        · have hcz : ((c : Nat) : Int) = 0 := by omega
          have hsn : scanR l (k + 1) = some q := by rw [scanR, hsc.out]; simp only; rw [← HC.out, if_pos hc0]
          have HSN := Lib.hid hsn
          clear hsn hc0
          go_wp2
          go_roundw
          case rel => exact ⟨k + 1, q, by omega, by go_num, HSN, hone3, hblk3, hbl3⟩
          case measure => simp [intI]; omega
        · have hcz : ¬ ((c : Nat) : Int) = 0 := by omega
          by_cases hc1 : 1 < c
          · have hsn : scanR l (k + 1) = none := by rw [scanR, hsc.out]; simp only; rw [← HC.out, if_neg hc0, if_pos (.inl hc1)]
            have hE : readR l = ([], 0, 30) := by rw [HR.out, show 2 * m = k + 1 + (2 * m - (k + 1)) by omega, scan_none l (k + 1) hsn]; rfl
            have HE := Lib.hid hE
            clear hsn hE hc0
            go_wp2
            go_ret3
            exact RdP.err HE.out (by rw [← HB.out]; exact hbl3)
          · have hc11 : c = 1 := by omega
            have hcz1 : ((c : Nat) : Int) = 1 := by omega
            rcases q with _ | p
            · obtain rfl : u6 = .pointer none := hone3
              obtain ⟨t, ht⟩ : ∃ t, t = tzN (brkN (bt l k).toNat) / 2 := ⟨_, rfl⟩
              have ht4 : tzN (brkN (bt l k).toNat) ≤ 8 := tzN_lt _
              have hsn : scanR l (k + 1) = some (some (4 * k + t)) := by rw [scanR, hsc.out]; simp only; rw [← HC.out, if_neg hc0, if_neg (by rintro (h | h); omega; exact h rfl), ht]
              have hpl := scan_lt l (k + 1) _ hsn
              have HSN := Lib.hid hsn
              clear hsn hc0 hc1 hc11 hcz
              go_wp2_with (go_at_call 46; (with_reducible refine (tz8_any (bt l k) _).mono ?_); rintro e w' ⟨rfl, rfl⟩)
              have hsz : B ≤ wv.heap.size := Nat.le_of_lt hblk3.lt
              have ht8 : t < 4 := by omega
              have ht' : ((tzN (brkN (bt l k).toNat) : Nat) : Int) / 2 = (t : Int) := by rw [ht]; rfl
              rw [ht', show (4 * (k : Int) + (t : Int)) = ((4 * k + t : Nat) : Int) by omega, show ((k : Int) / 2) = (((4 * k + t) / 8 : Nat) : Int) by omega, show (4 * ((k : Int) % 2) + (t : Int)) = (((4 * k + t) % 8 : Nat) : Int) by omega]
              refine ⟨⟨k + 1, some (4 * k + t), by omega, by go_num, HSN, ⟨wv.heap.size, rfl, by have := hblk3.lt; omega, Blk.new wv _ [_, _, _]⟩, hblk3.alloc _, hbl3.alloc hsz _⟩, ?_⟩
              simp [intI]
              omega
            · obtain ⟨g, rfl, hg1, hg2⟩ := hone3
              have hsn : scanR l (k + 1) = none := by rw [scanR, hsc.out]; simp only; rw [← HC.out, if_neg hc0, if_pos (.inr (by simp))]
              have hE : readR l = ([], 0, 30) := by rw [HR.out, show 2 * m = k + 1 + (2 * m - (k + 1)) by omega, scan_none l (k + 1) hsn]; rfl
              have HE := Lib.hid hE
              clear hsn hE hc0 hc11 hcz
              go_wp2
              go_ret3
              exact RdP.err HE.out (by rw [← HB.out]; exact hbl3)
      · obtain rfl : k = 2 * m := by omega
        have hcolO := fun (O : List UInt8) (wx : World) (hO : O.length = m) (hx : Rd wx (some ⟨B, 0, none⟩) (u8s O)) => cols_any (some ⟨B, 0, none⟩) m m O wx hO hx (by omega)
        have hE : readR l = endR l (some q) := by rw [HR.out, hsc.out]
        have HE := Lib.hid hE
        have hql : ∀ p, q = some p → p < 8 * m := fun p e => by have := scan_lt l (2 * m) p (by rw [hsc.out, e]); omega
        have hlowR : lowK l (2 * m) = lowR l := by unfold lowR; rw [HL.out]
        rw [hlowR] at hblk
        have hlen : (lowR l).length = m := by unfold lowR; rw [lowK_len, HL.out]; omega
        have HLN := Lib.hid hlen
        clear hE hlt hr hsc hlowR hlen
        rcases q with _ | p
        · obtain rfl : u6 = .pointer none := hone
          have hRd : Rd wr (some ⟨B, 0, none⟩) (u8s (lowR l)) := Rd.of_blk (sp := []) (by simpa using hblk)
          clear hql
          go_wp2_with fail
          with_reducible refine (hcolO (lowR l) _ HLN.out hRd).mono ?_
          rintro e w' ⟨rfl, rfl⟩
          rw [show lowR l = outR l none from rfl]
          by_cases hz : colsB (outR l (none)) = 0
          · have hz2 : (((colsB (outR l (none))).toNat : Nat) : Int) = 0 := by rw [hz]; rfl
            have hE2 : readR l = ((outR l (none)).take (m - 1), atR (none), 0) := by
              rw [HE.out]; simp only [endR]; rw [if_neg (by simpa using hz), HL.out, show 2 * m / 2 = m by omega]
            have HE2 := Lib.hid hE2
            have hsl := sl_to (some ⟨B, 0, none⟩) m m (m - 1) (by omega) wr (by unfold maxLen; omega)
            rw [show ((m - 1 : Nat) : Int) = (m : Int) - 1 by omega] at hsl
            clear hz hE2
            go_wp2_with fail
            with_reducible refine (Clip_any (some ⟨B, 0, none⟩) (m - 1) m _ (by omega) (by unfold maxLen; omega)).mono ?_
            rintro e w' ⟨rfl, rfl⟩
            clear hsl
            go_wp2
            go_ret3
            exact RdP.ok HE2.out (by rw [outR_len, HL.out]; omega) (by omega) (by unfold maxLen; omega) hblk HB.out hbl
          · have hz2 : ¬ (((colsB (outR l (none))).toNat : Nat) : Int) = 0 := fun h => hz (UInt8.toNat_inj.1 (by rw [show (0 : UInt8).toNat = 0 from rfl]; omega))
            have hE2 : readR l = ([], 0, 30) := by
              rw [HE.out]; simp only [endR]; rw [if_pos hz]
            have HE2 := Lib.hid hE2
            clear hz hE2
            go_wp2
            go_ret3
            exact RdP.err HE2.out (by rw [← HB.out]; exact hbl)
        · obtain ⟨g, rfl, hg1, hg2⟩ := hone
          have hp8 := hql p rfl
          clear hql
          have hRd : Rd wr (some ⟨B, 0, none⟩) (u8s (lowR l)) := Rd.of_blk (sp := []) (by simpa using hblk)
          obtain ⟨j, hj⟩ : ∃ j, j = p / 8 := ⟨_, rfl⟩
          obtain ⟨r, hrr⟩ : ∃ r, r = p % 8 := ⟨_, rfl⟩
          have hjm : j < m := by omega
          have hr8 : r < 8 := by omega
          rw [← hj, ← hrr] at hg2
          have c0 : wr.cell? ⟨g, 0, none⟩ = some (.int .i64 (p : Int)) := by rw [hg2.cell]; rfl
          have c1 : wr.cell? ⟨g, 1, none⟩ = some (.int .i64 (j : Int)) := by rw [hg2.cell]; rfl
          have c2 : wr.cell? ⟨g, 2, none⟩ = some (.int .i64 (r : Int)) := by rw [hg2.cell]; rfl
          have c3 : wr.cell? ⟨B, j, none⟩ = some (.int .u8 ((bt (lowR l) j).toNat : Int)) := by rw [hblk.cell, u8s_bt _ _ (by rw [HLN.out]; exact hjm)]
          have hz := hblk.frozen j
          obtain ⟨nb, hnb⟩ : ∃ nb, nb = bt (lowR l) j ^^^ (colsB (lowR l) &&& UInt8.ofNat (2 ^ r)) := ⟨_, rfl⟩
          have hblk2 := hblk.set_ j (bv nb)
          rw [u8s_set] at hblk2
          have hfix : (lowR l).set j nb = outR l (some p) := by rw [hnb, hj, hrr]; rfl
          rw [hfix] at hblk2
          have hval : Go.bits .xor .u8 ((bt (lowR l) j).toNat : Int) (Go.bits .and .u8 ((colsB (lowR l)).toNat : Int) (IntKind.u8.wrap (2 ^ r))) = (nb.toNat : Int) := by
            have hpw := bit_lt r hr8
            have e1 : IntKind.u8.wrap (2 ^ r) = ((UInt8.ofNat (2 ^ r)).toNat : Int) := by
              rw [UInt8.toNat_ofNat_of_lt' (by exact hpw), show (2 : Int) ^ r = ((2 ^ r : Nat) : Int) by simp]; exact IntWalk.u8_in _ ⟨Int.natCast_nonneg _, Int.ofNat_le.2 (Nat.le_of_lt_succ hpw)⟩
            rw [e1, u8_and_b, u8_xor_b, hnb]
          have hfr2 := (Frm.refl (fun q => q = B) wr).setCell (p := ⟨B, j, none⟩) (fun _ => rfl) (bv nb)
          have hbl2 : Below B w (wr.setCell ⟨B, j, none⟩ (bv nb)) := below_frm hbl (by have := hblk.lt; omega) hfr2 (fun q hq => by rw [hq]; exact Nat.le_refl _)
          clear hfix hfr2 hj hrr hg2 hnb hblk hbl
          go_upto_region 21 with fail
          refine wp_region_still_tail 17 (by kernel_rfl) (by kernel_rfl) ?_
          simp only [List.take_succ_cons, List.take_zero, List.drop_succ_cons, List.drop_zero]
          repeat still_step
          still_call (back_same (hcolO (lowR l) _ HLN.out (by exact hRd)))
          repeat still_step
          refine wpStill_nil ?_
          change wpList _ _ _ _ _ wr.drew
          go_wp2_with fail
          obtain ⟨wf, hwf⟩ : ∃ wf, wf = (wr.setCell ⟨B, j, none⟩ (.int .u8 (nb.toNat : Int))).drew := ⟨_, rfl⟩
          have hbf : Below B w wf := by rw [hwf]; exact bel_drew hbl2
          have hkf : Blk wf B 5 (u8s (outR l (some p))) := by rw [hwf]; exact hblk2
          rw [← hwf]
          clear hwf hbl2 hblk2 c0 c1 c2 c3 hz hval
          with_reducible refine (hcolO (outR l (some p)) _ (by rw [outR_len, HL.out]; omega) (Rd.of_blk (sp := []) (by simpa using hkf))).mono ?_
          rintro e w' ⟨rfl, rfl⟩
          by_cases hz : colsB (outR l (some p)) = 0
          · have hz2 : (((colsB (outR l (some p))).toNat : Nat) : Int) = 0 := by rw [hz]; rfl
            have hE2 : readR l = ((outR l (some p)).take (m - 1), atR (some p), 0) := by
              rw [HE.out]; simp only [endR]; rw [if_neg (by simpa using hz), HL.out, show 2 * m / 2 = m by omega]
            have HE2 := Lib.hid hE2
            have hsl := sl_to (some ⟨B, 0, none⟩) m m (m - 1) (by omega) wf (by unfold maxLen; omega)
            rw [show ((m - 1 : Nat) : Int) = (m : Int) - 1 by omega] at hsl
            clear hz hE2
            go_wp2_with fail
            with_reducible refine (Clip_any (some ⟨B, 0, none⟩) (m - 1) m _ (by omega) (by unfold maxLen; omega)).mono ?_
            rintro e w' ⟨rfl, rfl⟩
            clear hsl
            go_wp2
            go_ret3
            exact RdP.ok HE2.out (by rw [outR_len, HL.out]; omega) (by omega) (by unfold maxLen; omega) hkf HB.out hbf
          · have hz2 : ¬ (((colsB (outR l (some p))).toNat : Nat) : Int) = 0 := fun h => hz (UInt8.toNat_inj.1 (by rw [show (0 : UInt8).toNat = 0 from rfl]; omega))
            have hE2 : readR l = ([], 0, 30) := by
              rw [HE.out]; simp only [endR]; rw [if_pos hz]
            have HE2 := Lib.hid hE2
            clear hz hE2
            go_wp2
            go_ret3
            exact RdP.err HE2.out (by rw [← HB.out]; exact hbf)
end Go.Proofs.YtekbjcagjkcaiaaDoor
