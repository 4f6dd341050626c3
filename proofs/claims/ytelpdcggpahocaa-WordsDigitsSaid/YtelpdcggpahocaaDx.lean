/- Walks of Unhex, the program's and the document's. -/
import Derived.Test.YtelpdcggpahocaaDw
namespace Go.Proofs.Ytelpdcggpahocaa
open Go.RowKit
set_option linter.unusedVariables false
set_option linter.unusedSimpArgs false

theorem own_make2 (w : World) (m : Nat) (x : Int) (hx : x = m) (hc : m ≤ 281474976710656) : ∃ w1, (Instr.makeSlice 22 (.int .i64 x) (.int .i64 x)).run Try.prog w = .ok (.slice (some ⟨w.heap.size, 0, none⟩) m m) w1 ∧
    Blk w1 w.heap.size 5 (u8s (List.replicate m 0)) ∧ Frm (fun _ => False) w w1 := by
  obtain ⟨i, hi, hz, hsize, hby⟩ := info_parts info5
  subst hx
  have hrun := run_make (P := Try.prog) w 22 5 i _ Try.underlying22 hi hz .i64 .i64 (m : Int) (m : Int) (by omega) (Int.le_refl _) (by rw [hby]; omega) (by omega)
  rw [hsize] at hrun
  have hcs : madeCells (Value.int .u8 0).cells (m * 1) = (u8s (List.replicate m 0)).toArray := by
    apply Array.ext'
    simp [madeCells, u8s, bv, Value.cells]
    apply List.ext_getElem
    · simp
    · intro i h1 h2
      simp [Nat.mod_one]
  simp only [Int.toNat_natCast] at hrun
  rw [hcs] at hrun
  exact ⟨_, hrun, Blk.new _ _ _, (Frm.refl _ w).alloc _⟩
theorem idx_at (s : List UInt8) (k : Nat) (x : Int) (hx : x = k) (h : k < s.length) (w : World) : (Instr.index 9 (.string ⟨s.toArray⟩) (.int .i64 x)).run Try.prog w = .ok (.int .u8 ((bt s k).toNat : Int)) w := by
  subst hx
  have hsz : (ByteArray.mk s.toArray).size = s.length := by show s.toArray.size = _; simp
  have h2 : 0 ≤ (k : Int) ∧ (k : Int) < ((ByteArray.mk s.toArray).size : Int) := by rw [hsz]; omega
  rw [run_index_string w 9 _ .i64 (k : Int) Try.underlying9, dif_pos h2]
  have : (ByteArray.mk s.toArray)[((k : Int)).toNat]'(by rw [hsz]; omega) = bt s k := by
    show s.toArray[((k : Int)).toNat]'_ = _
    simp [bt, h]
  rw [this]

theorem dig_num (c : UInt8) (h : 48 ≤ c.toNat ∧ c.toNat ≤ 57) : digN c < 16 ∧ ((digN c : Nat) : Int) = (c.toNat : Int) - 48 := by
  unfold digN; rw [if_pos h]; omega
theorem dig_let (c : UInt8) (h1 : ¬ (48 ≤ c.toNat ∧ c.toNat ≤ 57)) (h : 97 ≤ c.toNat ∧ c.toNat ≤ 102) : digN c < 16 ∧ ((digN c : Nat) : Int) = (c.toNat : Int) - 97 + 10 := by
  unfold digN; rw [if_neg h1, if_pos h]; omega
theorem dig_none (c : UInt8) (h1 : ¬ (48 ≤ c.toNat ∧ c.toNat ≤ 57)) (h : ¬ (97 ≤ c.toNat ∧ c.toNat ≤ 102)) : ¬ digN c < 16 := by
  unfold digN; rw [if_neg h1, if_neg h]; omega

set_option maxHeartbeats 1600000 in
theorem unhex_any (s : List UInt8) (w : World) (hm : s.length ≤ 281474976702464) :
    Calls Try.prog 26 #[.string ⟨s.toArray⟩] w fun e w' => ∃ v, e = .returned (.tuple #[v, .int .i64 (unE s)]) ∧ NewB w w' v (unR s) := by
  obtain ⟨n, hn⟩ : ∃ n, n = s.length := ⟨_, rfl⟩
  have hsz : (ByteArray.mk s.toArray).size = n := by rw [hn]; show s.toArray.size = _; simp
  have hsl : s.toArray.size = n := by rw [hn]; simp
  have HN := Lib.hid hn
  rw [← hn] at hm
  have hn2 : s.length = n := hn.symm
  clear hn
  rcases Nat.mod_two_eq_zero_or_one n with h2 | h2
  · have h2i : (n : Int) % 2 = 0 := by omega
    have H2 := Lib.hid h2
    clear h2
    obtain ⟨w1, hmk, hb1, hf1⟩ := own_make2 w (n / 2) ((n : Int) / 2) (by omega) (by omega)
    obtain ⟨B, hB⟩ : ∃ B, B = w.heap.size := ⟨_, rfl⟩
    rw [← hB] at hmk hb1
    have HB := Lib.hid hB
    have hbl1 : Below B w w1 := by rw [hB]; exact hf1.below (Nat.le_refl _) (fun _ _ h => h)
    clear hB
    go_enter Try.func26, Try.ntmps26
    go_wp2
    clear h2i
    go_loopw [18] (fun i wr => ∃ k : Nat, k ≤ n ∧ i = .int .i64 k ∧ (∀ j, j < k → digN (bt s j) < 16) ∧ Blk wr B 5 (u8s (half s k (n / 2))) ∧ Below B w wr) (fun i _ => n - (intOf i).toNat)
    case atStart => exact ⟨0, by omega, rfl, fun j hj => absurd hj (Nat.not_lt_zero _), by rw [half_zero]; exact hb1, hbl1⟩
    case round =>
      obtain ⟨k, hk, rfl, hdg, hbk, hbl⟩ := hrel
      by_cases hlt : k < n
      · have hix := idx_at s k (k : Int) rfl (by omega)
        have hc255 := (bt s k).toNat_lt
        by_cases h1 : 48 ≤ (bt s k).toNat ∧ (bt s k).toNat ≤ 57
        · obtain ⟨hdk, hdv⟩ := dig_num _ h1
          have hk2 : k / 2 < n / 2 := by have := H2.out; omega
          have hcell : wr.cell? ⟨B, k / 2, none⟩ = some (.int .u8 ((halfB s k (k / 2)).toNat : Int)) := by
            have h := u8s_bt (half s k (n / 2)) (k / 2) (by rw [half_len]; exact hk2)
            rw [half_get _ _ _ hk2] at h
            rw [hbk.cell, h]
          have hfz := hbk.frozen (k / 2)
          have hbs := hbk.set_ (k / 2) (bv (halfB s (k + 1) (k / 2)))
          rw [u8s_set, half_set] at hbs
          have hfs := (Frm.refl (· = B) wr).setCell (p := ⟨B, k / 2, none⟩) (fun _ => rfl) (bv (halfB s (k + 1) (k / 2)))
          have hbl2 : Below B w (wr.setCell ⟨B, k / 2, none⟩ (bv (halfB s (k + 1) (k / 2)))) := below_frm hbl (by have := HB.out; rw [this] at hbl ⊢; exact hbl.size) hfs (fun q hq => by rw [hq]; exact Nat.le_refl _)
          have hq2 : ((k : Int) / 2).toNat = k / 2 := by omega
          have hq3 : (k : Int) / 2 < ((n / 2 : Nat) : Int) := by omega
          have hx := half_bits s k (fun j hj => by rcases Nat.lt_or_ge j k with h | h; exact hdg j h; rw [show j = k from by omega]; exact hdk)
          rw [hdv, IntKind.wrap_u8'] at hx
          unfold bv at hbs hfs hbl2
          clear hbk hfs hbl hdv
          obtain ⟨h1, h1'⟩ := h1
          go_wp2
          go_roundw
          case rel => exact ⟨k + 1, by omega, by go_num, fun j hj => by rcases Nat.lt_or_ge j k with h | h; exact hdg j h; rw [show j = k from by omega]; exact hdk, hbs, hbl2⟩
          case measure => simp [intOf]; omega
        · by_cases h3 : 97 ≤ (bt s k).toNat ∧ (bt s k).toNat ≤ 102
          · obtain ⟨hdk, hdv⟩ := dig_let _ h1 h3
            have hk2 : k / 2 < n / 2 := by have := H2.out; omega
            have hcell : wr.cell? ⟨B, k / 2, none⟩ = some (.int .u8 ((halfB s k (k / 2)).toNat : Int)) := by
              have h := u8s_bt (half s k (n / 2)) (k / 2) (by rw [half_len]; exact hk2)
              rw [half_get _ _ _ hk2] at h
              rw [hbk.cell, h]
            have hfz := hbk.frozen (k / 2)
            have hbs := hbk.set_ (k / 2) (bv (halfB s (k + 1) (k / 2)))
            rw [u8s_set, half_set] at hbs
            have hfs := (Frm.refl (· = B) wr).setCell (p := ⟨B, k / 2, none⟩) (fun _ => rfl) (bv (halfB s (k + 1) (k / 2)))
            have hbl2 : Below B w (wr.setCell ⟨B, k / 2, none⟩ (bv (halfB s (k + 1) (k / 2)))) := below_frm hbl (by have := HB.out; rw [this] at hbl ⊢; exact hbl.size) hfs (fun q hq => by rw [hq]; exact Nat.le_refl _)
            have hq2 : ((k : Int) / 2).toNat = k / 2 := by omega
            have hq3 : (k : Int) / 2 < ((n / 2 : Nat) : Int) := by omega
            have hx := half_bits s k (fun j hj => by rcases Nat.lt_or_ge j k with h | h; exact hdg j h; rw [show j = k from by omega]; exact hdk)
            rw [hdv, IntKind.wrap_u8'] at hx
            unfold bv at hbs hfs hbl2
            clear hbk hfs hbl hdv
            obtain ⟨h3, h3'⟩ := h3
            have h4 : 48 ≤ (bt s k).toNat := by omega
            have h5 : ¬ (bt s k).toNat ≤ 57 := by omega
            clear h1
            go_wp2
            go_roundw
            case rel => exact ⟨k + 1, by omega, by go_num, fun j hj => by rcases Nat.lt_or_ge j k with h | h; exact hdg j h; rw [show j = k from by omega]; exact hdk, hbs, hbl2⟩
            case measure => simp [intOf]; omega
          · have hbad := bad_at s k (by omega) (dig_none _ h1 h3)
            have hE : unE s = 12 := by unfold unE; rw [hbad]; rfl
            have hR : unR s = [] := by unfold unR; rw [hbad]; rfl
            have hfin : Below w.heap.size w wr := by rw [← HB.out]; exact hbl
            have HE := Lib.hid hE
            have HR := Lib.hid hR
            clear hbad hE hR
            by_cases h4 : 48 ≤ (bt s k).toNat
            · have h5 : ¬ (bt s k).toNat ≤ 57 := by omega
              by_cases h6 : 97 ≤ (bt s k).toNat
              · have h7 : ¬ (bt s k).toNat ≤ 102 := by omega
                clear h1 h3
                go_wp2
                go_ret2
                exact ⟨.slice none 0 0, by rw [HE.out]; rfl, by rw [HR.out]; exact ⟨[], .inl ⟨rfl, rfl, rfl, rfl⟩, (fun _ h => by cases h), hfin⟩⟩
              · clear h1 h3
                go_wp2
                go_ret2
                exact ⟨.slice none 0 0, by rw [HE.out]; rfl, by rw [HR.out]; exact ⟨[], .inl ⟨rfl, rfl, rfl, rfl⟩, (fun _ h => by cases h), hfin⟩⟩
            · have h6 : ¬ 97 ≤ (bt s k).toNat := by omega
              clear h1 h3
              go_wp2
              go_ret2
              exact ⟨.slice none 0 0, by rw [HE.out]; rfl, by rw [HR.out]; exact ⟨[], .inl ⟨rfl, rfl, rfl, rfl⟩, (fun _ h => by cases h), hfin⟩⟩
      · obtain rfl : k = n := by omega
        have hok := good_all s (by rw [hn2]; exact H2.out) (fun i hi => hdg i (by omega))
        have hE : unE s = 0 := by unfold unE; rw [if_pos hok]
        have hR : half s k (k / 2) = unR s := half_all s k hn2 hok
        have hul : (unR s).length = k / 2 := by rw [← hR, half_len]
        have hfin : Below w.heap.size w wr := by rw [← HB.out]; exact hbl
        rw [hR] at hbk
        have HE := Lib.hid hE
        clear hok hR hE hbl
        go_wp2
        go_ret2
        exact ⟨.slice (some ⟨B, 0, none⟩) (k / 2) (k / 2), by rw [HE.out]; rfl, [], .inr ⟨B, k / 2, by rw [hul], by rw [List.append_nil]; exact hbk, by rw [u8s_length, hul]; simp, by rw [u8s_length, hul]; simp, by rw [hul]; exact Nat.le_refl _, by unfold maxLen; omega⟩, (fun q hq => by cases hq; exact Nat.le_of_eq HB.out.symm), hfin⟩
  · have h2i : (n : Int) % 2 = 1 := by omega
    have hbad := bad_odd s (by omega)
    have hE : unE s = 12 := by unfold unE; rw [hbad]; rfl
    have hR : unR s = [] := by unfold unR; rw [hbad]; rfl
    rw [hE, hR]
    clear h2 hbad hE hR
    go_enter Try.func26, Try.ntmps26
    go_wp2
    go_ret2
    exact ⟨_, rfl, NewB.nil w⟩
theorem unB_val (s : List UInt8) (k : Nat) (h1 : digN (bt s (2 * k)) < 16) (h2 : digN (bt s (2 * k + 1)) < 16) : ((unB s k).toNat : Int) = 16 * ((digN (bt s (2 * k)) : Nat) : Int) + ((digN (bt s (2 * k + 1)) : Nat) : Int) := by
  unfold unB
  rw [UInt8.toNat_ofNat_of_lt' (by show _ < 256; omega)]
  omega
theorem digI_ok (c : UInt8) (h : digN c < 16) : digI c = ((digN c : Nat) : Int) := by unfold digI; rw [if_pos h]
theorem digI_bad (c : UInt8) (h : ¬ digN c < 16) : digI c = -1 := by unfold digI; rw [if_neg h]

set_option maxHeartbeats 1600000 in
theorem refunhex_any (s : List UInt8) (w : World) (hm : s.length ≤ 140737488355328) :
    Calls Try.prog 25 #[.string ⟨s.toArray⟩] w fun e w' => ∃ v, e = .returned (.tuple #[v, .int .i64 (unE s)]) ∧ NewB w w' v (unR s) := by
  obtain ⟨n, hn⟩ : ∃ n, n = s.length := ⟨_, rfl⟩
  have hsz : (ByteArray.mk s.toArray).size = n := by rw [hn]; show s.toArray.size = _; simp
  have hsl : s.toArray.size = n := by rw [hn]; simp
  have HN := Lib.hid hn
  rw [← hn] at hm
  have hn2 : s.length = n := hn.symm
  clear hn
  rcases Nat.mod_two_eq_zero_or_one n with h2 | h2
  · have h2i : (n : Int) % 2 = 0 := by omega
    have H2 := Lib.hid h2
    clear h2
    obtain ⟨B, hB⟩ : ∃ B, B = w.heap.size := ⟨_, rfl⟩
    have HB := Lib.hid hB
    have h0 : Own (w.alloc (.cells #[] 5)) 5 1 (.slice (some ⟨w.heap.size, 0, none⟩) 0 0) 0 [] [] := Own.new w 5 1 0 [] rfl (Nat.zero_le _)
    have hbl1 : Below B w (w.alloc (.cells #[] 5)) := by rw [hB]; exact (Below.refl _ w).alloc (Nat.le_refl _) _
    clear hB
    go_enter Try.func25, Try.ntmps25
    go_wp2
    clear h2i
    go_loopw [4, 5] (fun v i wr => ∃ k : Nat, 2 * k ≤ n ∧ i = .int .i64 (2 * (k : Int)) ∧ (∀ j, j < 2 * k → digN (bt s j) < 16) ∧ (∃ sp, Own wr 5 1 v k (u8s (gen (unB s) k)) sp) ∧ (∀ q, v.ownBlock = some q → B ≤ q) ∧ Below B w wr) (fun _ i _ => n - (intOf i).toNat)
    case atStart => exact ⟨0, by omega, rfl, fun j hj => absurd hj (Nat.not_lt_zero _), ⟨[], h0⟩, by intro q hq; cases hq; exact Nat.le_of_eq HB.out, hbl1⟩
    case round =>
      obtain ⟨k, hk, rfl, hdg, ⟨sp, ho⟩, hfr, hbl⟩ := hrel
      by_cases hlt : 2 * k < n
      · have hlt2 : 2 * k + 1 < n := by have := H2.out; omega
        have hix := idx_at s (2 * k) (2 * (k : Int)) (by omega) (by omega)
        have hix2 := idx_at s (2 * k + 1) (2 * (k : Int) + 1) (by omega) (by omega)
        have hlti : 2 * (k : Int) < n := by omega
        have hsB : B ≤ wr.heap.size := by have := HB.out; rw [this] at hbl ⊢; exact hbl.size
        by_cases hd1 : digN (bt s (2 * k)) < 16
        · have e1 := digI_ok _ hd1
          by_cases hd2 : digN (bt s (2 * k + 1)) < 16
          · have e2 := digI_ok _ hd2
            have HX := Lib.hid (unB_val s k hd1 hd2)
            go_wp2_with (first | (go_at_call 38; (with_reducible refine (digit_any (bt s (2 * k)) _).mono ?_); rintro e w' ⟨rfl, rfl⟩) | (go_at_call 38; (with_reducible refine (digit_any (bt s (2 * k + 1)) _).mono ?_); rintro e w' ⟨rfl, rfl⟩) | (at_builtin; refine wpList_app _ rfl (.tmp 34) (.tmp 40) 22 rfl 5 _ 1 1 Try.underlying22 info5 rfl (by decide) rfl (ho.alloc _) rfl rfl (rd_one _ _ _) (one_int _ _) (by unfold maxLen; omega) (by omega) ?_; intro v1 w1 sp1 ho2 hy1))
            rw [← HX.out] at ho2
            have f1 := fresh_app (B := B) (by simp; omega) hfr hy1.at_
            have b1 : Below B w w1 := below_frm (hbl.alloc hsB _) (by simp; omega) hy1.frm (fun q hq => hfr q hq)
            clear ho hy1 hfr hbl
            go_roundw
            case rel => exact ⟨k + 1, by omega, by go_num, fun j hj => by rcases Nat.lt_or_ge j (2 * k) with h | h; exact hdg j h; rcases Nat.lt_or_ge j (2 * k + 1) with h' | h'; rw [show j = 2 * k from by omega]; exact hd1; rw [show j = 2 * k + 1 from by omega]; exact hd2, ⟨sp1, by rw [gen_succ, u8s_append]; exact ho2⟩, f1, b1⟩
            case measure => simp [intOf]; omega
          · have e2 := digI_bad _ hd2
            have hbad := bad_at s (2 * k + 1) (by omega) hd2
            have HE : Hid (unE s = 12) := Lib.hid (by unfold unE; rw [hbad]; rfl)
            have HR : Hid (unR s = []) := Lib.hid (by unfold unR; rw [hbad]; rfl)
            have hfin : Below w.heap.size w wr := by rw [← HB.out]; exact hbl
            clear hbad
            go_wp2_with (first | (go_at_call 38; (with_reducible refine (digit_any (bt s (2 * k)) _).mono ?_); rintro e w' ⟨rfl, rfl⟩) | (go_at_call 38; (with_reducible refine (digit_any (bt s (2 * k + 1)) _).mono ?_); rintro e w' ⟨rfl, rfl⟩))
            go_ret2
            exact ⟨.slice none 0 0, by rw [HE.out]; rfl, by rw [HR.out]; exact ⟨[], .inl ⟨rfl, rfl, rfl, rfl⟩, (fun _ h => by cases h), hfin⟩⟩
        · have e1 := digI_bad _ hd1
          have hbad := bad_at s (2 * k) (by omega) hd1
          have HE : Hid (unE s = 12) := Lib.hid (by unfold unE; rw [hbad]; rfl)
          have HR : Hid (unR s = []) := Lib.hid (by unfold unR; rw [hbad]; rfl)
          have hfin : Below w.heap.size w wr := by rw [← HB.out]; exact hbl
          clear hbad
          go_wp2_with (first | (go_at_call 38; (with_reducible refine (digit_any (bt s (2 * k)) _).mono ?_); rintro e w' ⟨rfl, rfl⟩) | (go_at_call 38; (with_reducible refine (digit_any (bt s (2 * k + 1)) _).mono ?_); rintro e w' ⟨rfl, rfl⟩))
          go_ret2
          exact ⟨.slice none 0 0, by rw [HE.out]; rfl, by rw [HR.out]; exact ⟨[], .inl ⟨rfl, rfl, rfl, rfl⟩, (fun _ h => by cases h), hfin⟩⟩
      · have hk2 : 2 * k = n := by omega
        have hge : ¬ 2 * (k : Int) < n := by omega
        have hok := good_all s (by rw [hn2]; exact H2.out) (fun i hi => hdg i (by omega))
        have HE : Hid (unE s = 0) := Lib.hid (by unfold unE; rw [if_pos hok])
        have hR : gen (unB s) k = unR s := by unfold unR; rw [if_pos hok, hn2, ← hk2, show 2 * k / 2 = k from by omega]
        have hul : (unR s).length = k := by rw [← hR, gen_len]
        have hfin : Below w.heap.size w wr := by rw [← HB.out]; exact hbl
        rw [hR] at ho
        rw [HB.out] at hfr
        have HK := Lib.hid hk2
        have HU := Lib.hid hul
        clear hok hR hbl hk2 hul
        go_wp2
        go_ret2
        exact ⟨u4, by rw [HE.out]; rfl, sp, by rw [HU.out]; exact ho, hfr, hfin⟩
  · have h2i : (n : Int) % 2 = 1 := by omega
    have hbad := bad_odd s (by omega)
    have HE : Hid (unE s = 12) := Lib.hid (by unfold unE; rw [hbad]; rfl)
    have HR : Hid (unR s = []) := Lib.hid (by unfold unR; rw [hbad]; rfl)
    clear h2 hbad
    go_enter Try.func25, Try.ntmps25
    go_wp2
    go_ret2
    exact ⟨.slice none 0 0, by rw [HE.out]; rfl, by rw [HR.out]; exact NewB.nil w⟩
end Go.Proofs.Ytelpdcggpahocaa
