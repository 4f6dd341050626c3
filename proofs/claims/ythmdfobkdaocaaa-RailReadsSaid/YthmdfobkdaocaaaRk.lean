/- The law RailReads: its walk. -/
import Derived.Test.YthmdfobkdaocaaaRq
namespace Go.Proofs.Ythmdfobkdaocaaa
open Go.RowKit
set_option linter.unusedVariables false
set_option linter.unusedSimpArgs false
theorem readR_len (l : List UInt8) : (readR l).1.length ≤ 4096 := by
  unfold readR
  split
  · simp
  · rename_i h
    cases scanR l l.length with
    | none => simp [endR]
    | some o =>
      simp only [endR]
      split
      · simp
      · rw [List.length_take, outR_len]; omega
set_option maxRecDepth 100000 in
set_option maxHeartbeats 6400000 in
theorem reads_walk (w : World) (A : Option Addr) (n cap : Nat) (l : List UInt8) (hl : l.length = n) (hr : Rd w A (u8s l)) (hm : n ≤ 140737488351232) :
    Calls Try.prog 3 #[.slice A n cap] w fun e w' => e = .returned (.bool true) ∧ Below w.heap.size w w' := by
  have HL := Lib.hid hl
  clear hl
  have hR1 := fun wx hr' => rRead_any A n cap l wx HL.out hr' (by omega)
  have hR2 := fun A' c' wx hr' => Read_any A' n c' l wx HL.out hr' (by omega)
  obtain ⟨R, hR⟩ : ∃ R, R = (readR l).1 := ⟨_, rfl⟩
  obtain ⟨t, ht⟩ : ∃ t, t = (readR l).2.1 := ⟨_, rfl⟩
  obtain ⟨f, hf⟩ : ∃ f, f = (readR l).2.2 := ⟨_, rfl⟩
  obtain ⟨m, hmR⟩ : ∃ m, m = R.length := ⟨_, rfl⟩
  have hm8 : m ≤ 8192 := by have := readR_len l; rw [hmR, hR]; omega
  unfold RdP at hR1 hR2
  simp only [← hR, ← hf, ← ht, ← hmR] at hR1 hR2
  have HM := Lib.hid hmR
  clear hR hf ht hmR
  go_enter Try.func3, Try.ntmps3
  go_wp2_with fail
  with_reducible refine (hR1 _ hr).mono ?_
  rintro e w1 ⟨v0, sp0, rfl, o0, f0, b1⟩
  obtain ⟨A0, c0, rfl, hc0, r0⟩ := o0.rd
  replace hr := hr.below b1
  clear o0 f0 hR1
  go_wp2_with fail
  with_reducible refine (roomy_any A n cap l _ HL.out hr hm).mono ?_
  rintro e w2 ⟨vF, spF, rfl, oF, fF, b2⟩
  obtain ⟨F, cF, rfl, hcF, rF⟩ := oF.rd
  have hcm : cF ≤ maxLen := (Owx.of_own oF).cap
  replace hr := hr.below b2
  replace r0 := r0.below b2
  have hs12 := b1.size
  replace b1 := b1.trans (b2.mono b1.size)
  have hs2 := b1.size
  have rF0 : Rd w2 F (u8s l) := by rw [u8s_append] at rF; exact rF.left
  have hr2 := hr
  have rF2 := rF
  have r02 := r0
  have hsl := fun wx => sl_to F (n + 70) cF n (by omega) wx hcm
  clear oF fF b2
  go_wp2_with fail
  with_reducible refine (hR2 F cF _ rF0).mono ?_
  rintro e w3 ⟨vX, spX, rfl, oX, fX, b3⟩
  obtain ⟨AX, cX, rfl, hcX, _⟩ := oX.rd
  replace hr := hr.below b3
  replace r0 := r0.below b3
  replace rF := rF.below b3
  replace rF0 := rF0.below b3
  replace b1 := b1.trans (b3.mono b1.size)
  have hX3 := oX.lt
  go_wp2_with fail
  with_reducible refine (hR2 F cF _ rF0).mono ?_
  rintro e w4 ⟨vY, spY, rfl, oY, fY, b4⟩
  obtain ⟨AY, cY, rfl, hcY, rY⟩ := oY.rd
  replace hr := hr.below b4
  replace r0 := r0.below b4
  replace rF := rF.below b4
  replace oX := oX.bel b4
  have hs4 := b4.size
  have hs3 := b3.size
  replace b1 := b1.trans (b4.mono b1.size)
  clear rF0 hsl hR2 oY b3 b4
  obtain ⟨AXX, hAX⟩ : ∃ ad : Option Addr, ad = AX := ⟨_, rfl⟩
  have rX : Rd w4 AX (u8s R) := by obtain ⟨A', c', he, _, hh⟩ := oX.rd; cases he; exact hh
  clear hAX
  clear AXX
  go_wp2_with (first
    | (go_at_call 7; (with_reducible refine (no_any _ _).mono ?_); rintro e w' ⟨rfl, rfl⟩))
  with_reducible refine (same_true AX A0 m cX c0 R _ HM.out.symm rX r0 (by omega)).mono ?_
  rintro e w5 ⟨rfl, hq⟩
  have q_ := bel_drawn hq
  replace hr := hr.below q_
  replace r0 := r0.below q_
  replace rF := rF.below q_
  replace rY := rY.below q_
  replace oX := oX.bel q_
  replace b1 := b1.trans (q_.mono b1.size)
  replace hs4 := Nat.le_trans hs4 q_.size
  clear q_ hq
  clear rX
  go_wp2_with fail
  with_reducible refine (same_true AY A0 m cY c0 R _ HM.out.symm rY r0 (by omega)).mono ?_
  rintro e w6 ⟨rfl, hq⟩
  have q_ := bel_drawn hq
  replace hr := hr.below q_
  replace r0 := r0.below q_
  replace rF := rF.below q_
  replace rY := rY.below q_
  replace oX := oX.bel q_
  replace b1 := b1.trans (q_.mono b1.size)
  replace hs4 := Nat.le_trans hs4 q_.size
  clear q_ hq
  go_wp2_with fail
  with_reducible refine (kept_any F A n cF cap l _ HL.out rF hr hm).mono ?_
  rintro e w7 ⟨rfl, hq⟩
  have q_ := bel_drawn hq
  replace hr := hr.below q_
  replace r0 := r0.below q_
  replace rF := rF.below q_
  replace rY := rY.below q_
  replace oX := oX.bel q_
  replace b1 := b1.trans (q_.mono b1.size)
  replace hs4 := Nat.le_trans hs4 q_.size
  clear q_ hq
  go_wp2
  go_loopw [13] (fun i wr => ∃ k : Nat, k ≤ m ∧ i = .int .i64 k ∧ Owx wr 5 1 (.slice AX m cX) m (u8s (upd (fun _ => 17) R k)) spX ∧ Frm (fun q => (Value.slice AX m cX).ownBlock = some q) w7 wr) (fun i _ => m - (intI i))
  case atStart => exact ⟨0, by omega, rfl, by rw [upd_zero]; exact oX, Frm.refl _ _⟩
  case round =>
    obtain ⟨k, hk, rfl, ho, hbl⟩ := hrel
    by_cases hlt : k < m
    · obtain ⟨g, rfl, hc0', hz, hput⟩ := ho.put hlt
      have hnew := hput 17
      rw [upd_set _ _ _ (by have := HM.out; omega), show ((17 : UInt8).toNat : Int) = 17 from rfl] at hnew
      have hfr := hbl.setCell (p := ⟨g, k, none⟩) (fun _ => rfl) (.int .u8 17)
      clear hput ho hbl
      go_wp2
      go_roundw
      case rel => exact ⟨k + 1, by omega, by go_num, hnew, hfr⟩
      case measure => simp [intI]; omega
    · obtain rfl : k = m := by omega
      rw [show upd (fun _ => 17) R k = gen (fun _ => 17) k by have := upd_all (fun _ => 17) R; rw [← HM.out] at this; exact this] at ho
      have hex : ∀ q, (Value.slice AX k cX).ownBlock = some q → w2.heap.size ≤ q ∧ q < w3.heap.size := fun q hq => ⟨fX q hq, hX3 q hq⟩
      have hgl : (gen (fun _ => (17 : UInt8)) k).length = k := gen_len _ _
      go_wp2_with (at_builtin; refine wpList_appx _ rfl (.tmp 77) (.tmp 78) 22 rfl 5 _ 1 1 Try.underlying22 info5 rfl (by decide) rfl (ho.alloc _) rfl rfl (rd_one _ _ _) (one_int _ _) (by unfold maxLen; omega) (by omega) ?_; intro v8 w8 sp8 ho8 hy8; obtain ⟨AZ, cZ, rfl, hcZ, rZ⟩ := ho8.rd; have hy : Lay (wr.alloc (.cells #[.int .u8 34] 5)) w8 (.slice AX k cX) (.slice AZ (k + 1) cZ) := hy8; clear hy8)
      have rX8 : Rd w8 AX (u8s (gen (fun _ => 17) k)) := hy.old (ho.alloc _) ho8
      have f8 : Frm (fun q => (Value.slice AX k cX).ownBlock = some q) w7 w8 := (hbl.alloc _).trans hy.frm
      have hr8 := hr.frm2 hr2 f8 (fun q hq => (hex q hq).1)
      have rF8 := rF.frm2 rF2 f8 (fun q hq => (hex q hq).1)
      have r08 := r0.frm2 r02 f8 (fun q hq => (hex q hq).1)
      have rY8 : Rd w8 AY (u8s R) := rY.frm f8 (fun ad e hq => by subst e; have h1 := fY ad.block rfl; have h2 := (hex _ hq).2; omega)
      have b8 : Below w.heap.size w w8 := below_frm b1 b1.size f8 (fun q hq => by have := (hex q hq).1; omega)
      obtain ⟨ad8, rfl, hz8⟩ := rZ.at_ (k := k) (u := .int .u8 34) (by rw [List.getElem?_append_right (by rw [u8s_length, hgl]; exact Nat.le_refl _), u8s_length, hgl, Nat.sub_self]; rfl)
      have hkk : (k : Int) + 1 - 1 = k := by omega
      clear hy ho8 ho hbl f8 hr hr2 rF rF2 r0 r02 rY oX hex hX3 fX fY rZ
      go_wp2_with fail
      with_reducible refine (same_true AY A0 k cY c0 R _ HM.out.symm rY8 r08 (by omega)).mono ?_
      rintro e w9 ⟨rfl, hq⟩
      have q9 := bel_drawn hq
      replace hr8 := hr8.below q9
      replace rF8 := rF8.below q9
      replace rX8 := rX8.below q9
      have hz9 : w9.cell? (ad8.add k) = some (.int .u8 34) := by obtain ⟨_, rfl⟩ := hq; exact hz8
      replace b8 := b8.trans (q9.mono b8.size)
      clear q9 hq hz8 rY8 r08
      go_wp2_with fail
      with_reducible refine (kept_any F A n cF cap l _ HL.out rF8 hr8 hm).mono ?_
      rintro e w10 ⟨rfl, hq⟩
      have q9 := bel_drawn hq
      replace rX8 := rX8.below q9
      have hz10 : w10.cell? (ad8.add k) = some (.int .u8 34) := by obtain ⟨_, rfl⟩ := hq; exact hz9
      replace b8 := b8.trans (q9.mono b8.size)
      clear q9 hq hz9 rF8 hr8
      by_cases hk0 : k = 0
      · rw [hk0, addr_zero] at hz10
        go_wp2
        go_ret
        exact ⟨rfl, b8⟩
      · go_wp2
        go_ret
        exact ⟨rfl, b8⟩
end Go.Proofs.Ythmdfobkdaocaaa
