/- The law RailBack: its walk. -/
import Derived.Test.YthmdfobkdaocaaaDoorRg
import Derived.Test.YthmdfobkdaocaaaDoorRn
namespace Go.Proofs.YthmdfobkdaocaaaDoor
open Go.RowKit
set_option linter.unusedVariables false
set_option linter.unusedSimpArgs false
/-- Lay, where it lays; where it does not. -/
theorem Lay_ok (A : Option Addr) (n m cap : Nat) (l : List UInt8) (w : World) (hl : l.length = n) (hr : Rd w A (u8s l)) (hn : n ≤ 4095) (hm : m = 2 * n + 2) (hT : SpT w) :
    Calls Tryd.prog 11 #[.slice A n cap] w fun e w' => ∃ A2 c sp, e = .returned (.tuple #[.slice A2 m c, .int .i64 0]) ∧ Owx w' 5 1 (.slice A2 m c) m (u8s (layB l)) sp ∧ (∀ q, (Value.slice A2 m c).ownBlock = some q → w.heap.size ≤ q) ∧ Below w.heap.size w w' := by
  have h := Lay_any A n cap l w hl hr (by omega) hT
  have e : layR l = (layB l, 0) := by unfold layR; rw [hl, if_neg (by omega)]
  rw [e] at h
  refine h.mono fun e w' ⟨v, sp, h1, h2, h3, h4⟩ => ?_
  rw [show (layB l, (0 : Int)).1.length = m by rw [hm]; show (layB l).length = _; rw [layB_len, hl]] at h2
  obtain ⟨A2, c, rfl, _, _⟩ := h2.rd
  exact ⟨A2, c, sp, h1, h2, h3, h4⟩
theorem Lay_no (A : Option Addr) (n cap : Nat) (l : List UInt8) (w : World) (hl : l.length = n) (hr : Rd w A (u8s l)) (hn : 4095 < n) (hm : n ≤ 140737488351232) (hT : SpT w) :
    Calls Tryd.prog 11 #[.slice A n cap] w fun e w' => ∃ A2 c, e = .returned (.tuple #[.slice A2 0 c, .int .i64 31]) ∧ Below w.heap.size w w' := by
  have h := Lay_any A n cap l w hl hr hm hT
  have e : layR l = ([], 31) := by unfold layR; rw [hl, if_pos (by omega)]
  rw [e] at h
  refine h.mono fun e w' ⟨v, sp, h1, h2, h3, h4⟩ => ?_
  obtain ⟨A2, c, rfl, _, _⟩ := h2.rd
  exact ⟨A2, c, h1, h4⟩
/-- Read, what it tells in the open. -/
theorem Read_is (A : Option Addr) (n cap k : Nat) (l x : List UInt8) (t er : Int) (w : World) (hl : l.length = n) (hr : Rd w A (u8s l)) (hm : n ≤ 140737488355328) (hR : readR l = (x, t, er)) (hk : x.length = k) :
    Calls Tryd.prog 18 #[.slice A n cap] w fun e w' => ∃ A2 c sp, e = .returned (.tuple #[.slice A2 k c, .int .i64 t, .int .i64 er]) ∧ Owx w' 5 1 (.slice A2 k c) k (u8s x) sp ∧ (∀ q, (Value.slice A2 k c).ownBlock = some q → w.heap.size ≤ q) ∧ Rd w' A2 (u8s x) ∧ Below w.heap.size w w' := by
  have h := Read_any A n cap l w hl hr hm
  rw [hR] at h
  refine h.mono fun e w' hp => ?_
  obtain ⟨A2, c, sp, h1, h2, h3, h4, h5⟩ := hp.open
  simp only [hk] at h1 h2 h3 h4
  exact ⟨A2, c, sp, h1, h2, h3, h4, h5⟩
set_option maxRecDepth 100000 in
set_option maxHeartbeats 6400000 in
theorem back_walk (w : World) (A : Option Addr) (n cap : Nat) (l : List UInt8) (hl : l.length = n) (hr : Rd w A (u8s l)) (hm : n ≤ 140737488351232) (x : Int) (hx1 : -9223372036854775808 ≤ x) (hx2 : x ≤ 9223372036854775807) (y : Int) (hy1 : -9223372036854775808 ≤ y) (hy2 : y ≤ 9223372036854775807) (hT : SpT w) :
    Calls Tryd.prog 4 #[.slice A n cap, .int .i64 x, .int .i64 y] w fun e w' => e = .returned (.bool true) ∧ Below w.heap.size w w' := by
  have HL := Lib.hid hl
  have hh := heads_any w hT
  have HT := Lib.hid hT
  have hT0 := hT.pos
  clear hl hT
  have hrw := hr
  by_cases hbig : 4095 < n
  · have hb2 : (4095 : Int) < (n : Int) := by omega
    have hLy := fun wx hr' hT' => Lay_no A n cap l wx HL.out hr' hbig hm hT'
    go_enter Tryd.func4, Tryd.ntmps4
    go_wp2_with fail
    with_reducible refine hh.mono ?_
    rintro e w1 ⟨rfl, b1⟩
    go_wp2_with fail
    with_reducible refine (hLy _ (hr.below b1) (HT.out.belowB b1 hT0)).mono ?_
    rintro e w2 ⟨A2, c2, rfl, b2⟩
    replace b1 := b1.trans (b2.mono b1.size)
    clear b2 hLy hh
    go_wp2_with (go_at_call 14; (with_reducible refine (no_any _ _).mono ?_); rintro e w' ⟨rfl, rfl⟩)
    go_ret
    exact ⟨rfl, b1⟩
  · have hb2 : ¬ (4095 : Int) < (n : Int) := by omega
    obtain ⟨m, hmm⟩ : ∃ m, m = 2 * n + 2 := ⟨_, rfl⟩
    have hm8 : m ≤ 8192 := by omega
    have hm2 : 2 ≤ m := by omega
    have hmi : (m : Int) = 2 * (n : Int) + 2 := by omega
    have hLy := fun wx hr' hT' => Lay_ok A n m cap l wx HL.out hr' (by omega) hmm hT'
    obtain ⟨i, hi⟩ : ∃ i, i = restN x (8 * m) := ⟨_, rfl⟩
    obtain ⟨j, hj⟩ : ∃ j, j = restN y (8 * m) := ⟨_, rfl⟩
    have hil : i < 8 * m := by rw [hi]; exact restN_lt x _ (by omega)
    have hjl : j < 8 * m := by rw [hj]; exact restN_lt y _ (by omega)
    have hRi := fun wx => rest_any x (8 * m) hx1 hx2 (by omega) (by omega) wx
    have hRj := fun wx => rest_any y (8 * m) hy1 hy2 (by omega) (by omega) wx
    rw [← hi] at hRi
    rw [← hj] at hRj
    simp only [Int.natCast_mul, show ((8 : Nat) : Int) = 8 from rfl] at hRi hRj
    have hL : (layB l).length = m := by rw [layB_len, HL.out, hmm]
    have hLi : (flipB (layB l) i).length = m := by rw [flipB_len, hL]
    have hLj : (flipB (flipB (layB l) i) j).length = m := by rw [flipB_len, hLi]
    have hl95 : l.length ≤ 4095 := by rw [HL.out]; omega
    have hmL : m = 2 * l.length + 2 := by rw [HL.out, hmm]
    have hq0 := fun A' c' wx hr' => Read_is A' m c' n (layB l) l (-1) 0 wx hL hr' (by omega) (read_lay l hl95) HL.out
    obtain ⟨p, hp⟩ : ∃ p, p = i / 2 := ⟨_, rfl⟩
    have hrf := read_flip l i hl95 (by omega)
    rw [← hp] at hrf
    have hq1 := fun A' c' wx hr' => Read_is A' m c' n (flipB (layB l) i) l (p : Int) 0 wx hLi hr' (by omega) hrf HL.out
    have hp2 : (i : Int) / 2 = (p : Int) := by rw [hp]; rfl
    have HLL := Lib.hid hL
    have HLI := Lib.hid hLi
    have HLJ := Lib.hid hLj
    have HML := Lib.hid hmL
    have HMI := Lib.hid hmi
    clear hi hj hL hLi hLj hmL hp hrf hmm hmi
    go_enter Tryd.func4, Tryd.ntmps4
    go_wp2_with fail
    with_reducible refine hh.mono ?_
    rintro e w1 ⟨rfl, b1⟩
    replace hr := hr.below b1
    clear hh
    go_wp2_with fail
    with_reducible refine (hLy _ hr (HT.out.belowB b1 hT0)).mono ?_
    rintro e w2 ⟨A2, c2, sp2, rfl, o2, f2, b2⟩
    have hs1 := b1.size
    replace hr := hr.below b2
    replace b1 := b1.trans (b2.mono b1.size)
    have hA2 : ∀ q, (Value.slice A2 m c2).ownBlock = some q → w.heap.size ≤ q := fun q hq => by have := f2 q hq; omega
    obtain ⟨_, _, he2, _, r2⟩ := o2.rd
    cases he2
    clear b2 hLy f2
    have hmi := HMI.out
    go_wp2_with (go_at_call 14; (with_reducible refine (no_any _ _).mono ?_); rintro e w' ⟨rfl, rfl⟩)
    clear hmi
    with_reducible refine (hq0 _ _ _ r2).mono ?_
    rintro e w3 ⟨A3, c3, sp3, rfl, _, _, r3, b2⟩
    replace hr := hr.below b2
    replace o2 := o2.bel b2
    replace b1 := b1.trans (b2.mono b1.size)
    clear b2 hq0 r2
    go_wp2_with (go_at_call 14; (with_reducible refine (no_any _ _).mono ?_); rintro e w' ⟨rfl, rfl⟩)
    with_reducible refine (same_true A3 A n c3 cap l _ HL.out r3 hr (by omega)).mono ?_
    rintro e w4 ⟨rfl, hq⟩
    have b2 := bel_drawn hq
    replace hr := hr.below b2
    replace o2 := o2.bel b2
    replace b1 := b1.trans (b2.mono b1.size)
    clear b2 hq r3
    go_wp2_with fail
    with_reducible refine (hRi _).mono ?_
    rintro e w' ⟨rfl, rfl⟩
    go_wp2_with fail
    with_reducible refine (hRj _).mono ?_
    rintro e w' ⟨rfl, rfl⟩
    clear hRi hRj
    go_wp2_with fail
    with_reducible refine (turn_any A2 m c2 (layB l) sp2 i _ HLL.out o2 hil (by omega)).mono ?_
    rintro e w5 ⟨rfl, o5, f5⟩
    replace hr := hr.frm2 hrw f5 hA2
    replace b1 := below_frm b1 b1.size f5 hA2
    obtain ⟨_, _, he2, _, r5⟩ := o5.rd
    cases he2
    clear o2 f5
    go_wp2_with fail
    with_reducible refine (hq1 _ _ _ r5).mono ?_
    rintro e w6 ⟨A6, c6, sp6, rfl, _, _, r6, b2⟩
    replace hr := hr.below b2
    replace o5 := o5.bel b2
    replace b1 := b1.trans (b2.mono b1.size)
    clear b2 hq1 r5
    have hpi := hp2
    go_wp2_with (go_at_call 14; (with_reducible refine (no_any _ _).mono ?_); rintro e w' ⟨rfl, rfl⟩)
    with_reducible refine (same_true A6 A n c6 cap l _ HL.out r6 hr (by omega)).mono ?_
    rintro e w7 ⟨rfl, hq⟩
    have b2 := bel_drawn hq
    replace hr := hr.below b2
    replace o5 := o5.bel b2
    replace b1 := b1.trans (b2.mono b1.size)
    clear b2 hq r6
    go_wp2_with fail
    with_reducible refine (turn_any A2 m c2 (flipB (layB l) i) sp2 j _ HLI.out o5 hjl (by omega)).mono ?_
    rintro e w8 ⟨rfl, o8, f8⟩
    replace hr := hr.frm2 hrw f8 hA2
    replace b1 := below_frm b1 b1.size f8 hA2
    obtain ⟨_, _, he2, _, r8⟩ := o8.rd
    cases he2
    clear o5 f8 hp2
    by_cases hij : i = j
    · have hR8 : readR (flipB (flipB (layB l) i) j) = (l, -1, 0) := by
        rw [← hij, flip_twice _ _ (by have := HLL.out; omega)]
        exact read_lay l hl95
      have hq2 := fun A' c' wx hr' => Read_is A' m c' n (flipB (flipB (layB l) i) j) l (-1) 0 wx HLJ.out hr' (by omega) hR8 HL.out
      have hii : ((i : Nat) : Int) = j := by omega
      clear hR8 hij
      go_wp2_with fail
      with_reducible refine (hq2 _ _ _ r8).mono ?_
      rintro e w9 ⟨A9, c9, sp9, rfl, _, _, r9, b2⟩
      replace hr := hr.below b2
      replace b1 := b1.trans (b2.mono b1.size)
      clear b2 hq2
      go_wp2_with (go_at_call 14; (with_reducible refine (no_any _ _).mono ?_); rintro e w' ⟨rfl, rfl⟩)
      with_reducible refine (same_true A9 A n c9 cap l _ HL.out r9 hr (by omega)).mono ?_
      rintro e w10 ⟨rfl, hq⟩
      have b2 := bel_drawn hq
      replace b1 := b1.trans (b2.mono b1.size)
      go_wp2
      go_ret
      exact ⟨rfl, b1⟩
    · have hR8 : readR (flipB (flipB (layB l) i) j) = ([], 0, 30) := read_flips l i j hl95 (by have := HML.out; omega) (by have := HML.out; omega) hij
      have hq2 := fun A' c' wx hr' => Read_is A' m c' 0 (flipB (flipB (layB l) i) j) [] 0 30 wx HLJ.out hr' (by omega) hR8 rfl
      have hii : ¬ ((i : Nat) : Int) = j := by omega
      clear hR8 hij
      go_wp2_with fail
      with_reducible refine (hq2 _ _ _ r8).mono ?_
      rintro e w9 ⟨A9, c9, sp9, rfl, _, _, r9, b2⟩
      replace b1 := b1.trans (b2.mono b1.size)
      clear b2 hq2
      go_wp2_with (go_at_call 14; (with_reducible refine (no_any _ _).mono ?_); rintro e w' ⟨rfl, rfl⟩)
      go_ret
      exact ⟨rfl, b1⟩
end Go.Proofs.YthmdfobkdaocaaaDoor
