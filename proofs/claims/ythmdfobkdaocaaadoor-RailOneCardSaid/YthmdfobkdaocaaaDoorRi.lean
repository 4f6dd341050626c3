/- The law RailOne: its walk. -/
import Derived.Test.YthmdfobkdaocaaaDoorRa
import Derived.Test.YthmdfobkdaocaaaDoorRe
import Derived.BigQuiet
namespace Go.Proofs.YthmdfobkdaocaaaDoor
open Go.RowKit
set_option linter.unusedVariables false
set_option linter.unusedSimpArgs false
theorem sl_one (ad : Addr) (m c q : Nat) (h : q + 1 ≤ c) (w : World) : (Instr.slice 22 (.slice (some ad) m c) (some (.int .i64 (q : Int))) (some (.int .i64 ((q : Int) + 1))) none).run Tryd.prog w = .ok (.slice (some (ad.add q)) 1 (c - q)) w := by
  rw [run_slice_lh w _ _ _ _ Tryd.underlying22 .i64 .i64 (q : Int) ((q : Int) + 1) (by omega) (by omega) (by omega), show (sizeOf (Tryd.prog.elem 22)).run Tryd.prog w = .ok 1 w from by kernel_rfl]
  have h1 : ¬ c = q := by omega
  have h2 : ((q : Int) + 1).toNat - q = 1 := by omega
  simp [Result.andThen, sliced, h1, h2]
theorem rd_cell {w : World} {a : Addr} {u : Value} (h : w.cell? a = some u) : Rd w (some a) [u] := fun _ => ⟨a, rfl, fun j v hv => by
  match j, hv with
  | 0, hv => cases hv; rw [addr_zero]; exact h⟩
set_option maxRecDepth 100000 in
set_option maxHeartbeats 1600000 in
theorem one_walk (w : World) (A : Option Addr) (n cap : Nat) (l : List UInt8) (hl : l.length = n) (hr : Rd w A (u8s l)) (hm : n ≤ 140737488351232) (hcap : n ≤ cap) (hT : SpT w) :
    Calls Tryd.prog 6 #[.slice A n cap] w fun e w' => e = .returned (.bool true) ∧ Below w.heap.size w w' := by
  have HL := Lib.hid hl
  have hh := heads_any w hT
  have HT := Lib.hid hT
  have hT0 := hT.pos
  clear hl hT
  obtain ⟨x, t, er, hR⟩ : ∃ x t er, readR l = (x, t, er) := ⟨_, _, _, rfl⟩
  by_cases her : er = 0
  · subst her
    obtain ⟨o, hto, hlx, hx95, _, _, _⟩ := read_inv l x t hR
    obtain ⟨k, hk⟩ : ∃ k, k = x.length := ⟨_, rfl⟩
    rw [HL.out, ← hk] at hlx
    have hq := fun wx hr' => Read_is A n cap k l x t 0 wx HL.out hr' (by omega) hR hk.symm
    have hLy := fun A' c' wx hr' hT' => Lay_ok A' k n c' x wx hk.symm hr' (by omega) hlx hT'
    have hLl : (layB x).length = n := by rw [layB_len, ← hk]; omega
    have HK := Lib.hid hk
    have HLX := Lib.hid hlx
    have HLL := Lib.hid hLl
    have hn8 : n ≤ 8192 := by omega
    clear hlx hk hLl
    rcases o with _ | p
    · obtain rfl : t = -1 := hto
      have hlay := one_none l x hR
      rw [hlay] at hLy
      clear hR hlay
      go_enter Tryd.func6, Tryd.ntmps6
      go_wp2_with fail
      with_reducible refine hh.mono ?_
      rintro e w1 ⟨rfl, b1⟩
      replace hr := hr.below b1
      clear hh
      go_wp2_with fail
      with_reducible refine (hq _ hr).mono ?_
      rintro e w2 ⟨A3, c3, sp3, rfl, _, _, r3, b2⟩
      replace hr := hr.below b2
      replace b1 := b1.trans (b2.mono b1.size)
      clear b2 hq
      go_wp2_with (go_at_call 14; (with_reducible refine (no_any _ _).mono ?_); rintro e w' ⟨rfl, rfl⟩)
      with_reducible refine (hLy _ _ _ r3 (HT.out.belowB b1 hT0)).mono ?_
      rintro e w3 ⟨A4, c4, sp4, rfl, o4, _, b2⟩
      replace hr := hr.below b2
      replace b1 := b1.trans (b2.mono b1.size)
      obtain ⟨_, _, he4, _, r4⟩ := o4.rd
      cases he4
      clear b2 hLy r3 o4
      go_wp2_with (go_at_call 14; (with_reducible refine (no_any _ _).mono ?_); rintro e w' ⟨rfl, rfl⟩)
      with_reducible refine (same_true A4 A n c4 cap l _ HL.out r4 hr (by omega)).mono ?_
      rintro e w4 ⟨rfl, hq⟩
      have b2 := bel_drawn hq
      replace b1 := b1.trans (b2.mono b1.size)
      go_wp2
      go_ret
      exact ⟨rfl, b1⟩
    · obtain rfl : t = (p : Int) := hto
      obtain ⟨_, _, hp4, hpairs⟩ := one_pair l x p hR
      rw [HL.out] at hp4 hpairs
      obtain ⟨q, hqd⟩ : ∃ q, q = p / 4 := ⟨_, rfl⟩
      obtain ⟨e2, he2⟩ : ∃ e2, e2 = 2 * (p % 4) := ⟨_, rfl⟩
      have hqn : q < n := by omega
      have he26 : e2 ≤ 6 := by omega
      have hall : apTo (layB x) l (8 * n) = 1 := by
        rw [show 8 * n = 2 * (4 * n) by omega, ap_pairs _ _ p (4 * n) (fun K hK => hpairs K hK), if_pos hp4]
      have hone : apTo [bt (layB x) q] [bt l q] 8 = 1 := by
        have h1 := ap_byte (layB x) l q 8 (Nat.le_refl _)
        have h2 := ap_pairs (layB x) l p (4 * q) (fun K hK => hpairs K (by omega))
        have h3 := ap_pairs (layB x) l p (4 * q + 4) (fun K hK => hpairs K (by omega))
        rw [show 2 * (4 * q) = 8 * q by omega, if_neg (by omega)] at h2
        rw [show 2 * (4 * q + 4) = 8 * q + 8 by omega, if_pos (by omega)] at h3
        omega
      obtain ⟨y, hy⟩ : ∃ y, y = bt (layB x) q ^^^ bt l q := ⟨_, rfl⟩
      have hpn : y.toNat / 2 ^ e2 % 4 ≠ 0 := by
        have h1 := hpairs p hp4
        rw [if_pos rfl] at h1
        unfold apB at h1
        rw [show 2 * p / 8 = q by omega, show (2 * p + 1) / 8 = q by omega, show 2 * p % 8 = e2 by omega, show (2 * p + 1) % 8 = e2 + 1 by omega, ← hy, he2] at h1
        rw [he2]
        exact pair_nonzero y.toNat (p % 4) h1
      have hxr : Go.bits .xor .u8 ((bt (layB x) q).toNat : Int) ((bt l q).toNat : Int) = (y.toNat : Int) := by rw [hy]; exact u8_xor_b _ _
      obtain ⟨v, hv⟩ : ∃ v, v = y.toNat / 2 ^ e2 % 4 := ⟨_, rfl⟩
      have hxa : Go.bits .and .u8 ((y.toNat : Int) / 2 ^ e2) 3 = (v : Int) := by
        have hb := y.toNat_lt
        have e1 : (y.toNat : Int) / 2 ^ e2 = ((y.toNat / 2 ^ e2 : Nat) : Int) := by simp
        have h2 : y.toNat / 2 ^ e2 ≤ y.toNat := Nat.div_le_self _ _
        rw [e1, show (3 : Int) = ((3 : Nat) : Int) from rfl, u8_and_nat _ _ (by omega) (by decide), show (3 : Nat) = 2 ^ 2 - 1 from rfl, Nat.and_two_pow_sub_one_eq_mod, hv]
      have hv0 : ¬ ((v : Nat) : Int) = 0 := by rw [hv]; omega
      have hvb : (((v : Nat) : Int) != 0) = true := by rw [bne_iff_ne]; exact hv0
      have hw1 : IntKind.i64.wrap ((p : Int) / 4) = (q : Int) := by rw [hqd]; exact IntWalk.i64_in _ (by omega)
      have hw2 : IntKind.i64.wrap ((q : Int) + 1) = (q : Int) + 1 := IntWalk.i64_in _ (by omega)
      have hw3 : IntKind.i64.wrap (2 * (p : Int).tmod 4) = (e2 : Int) := by
        rw [show (p : Int).tmod 4 = ((p % 4 : Nat) : Int) from Int.tmod_eq_emod_of_nonneg (by omega), he2]; exact IntWalk.i64_in _ (by omega)
      have hw4 : IntKind.u64.wrap (e2 : Int) = (e2 : Int) := by rw [IntKind.wrap_u64]; omega
      have HE2 := Lib.hid he2
      have HALL := Lib.hid hall
      have HONE := Lib.hid hone
      have HW1 := Lib.hid hw1
      have HW2 := Lib.hid hw2
      have HW3 := Lib.hid hw3
      have HW4 := Lib.hid hw4
      have HXR := Lib.hid hxr
      have HXA := Lib.hid hxa
      have HVB := Lib.hid hvb
      clear hR hpairs hall hone hy hpn hv hxr hxa hvb hv0 hw1 hw2 hw3 hw4 hqd he2
      generalize layB x = L at *
      have hp0 : (p : Int) < 4 * (n : Int) := by omega
      go_enter Tryd.func6, Tryd.ntmps6
      go_wp2_with fail
      with_reducible refine hh.mono ?_
      rintro e w1 ⟨rfl, b1⟩
      replace hr := hr.below b1
      clear hh
      go_wp2_with fail
      with_reducible refine (hq _ hr).mono ?_
      rintro e w2 ⟨A3, c3, sp3, rfl, _, _, r3, b2⟩
      replace hr := hr.below b2
      replace b1 := b1.trans (b2.mono b1.size)
      clear b2 hq
      go_wp2_with (go_at_call 14; (with_reducible refine (no_any _ _).mono ?_); rintro e w' ⟨rfl, rfl⟩)
      with_reducible refine (hLy _ _ _ r3 (HT.out.belowB b1 hT0)).mono ?_
      rintro e w3 ⟨A4, c4, sp4, rfl, o4, _, b2⟩
      replace hr := hr.below b2
      replace b1 := b1.trans (b2.mono b1.size)
      obtain ⟨_, _, he4, hc4, r4⟩ := o4.rd
      cases he4
      clear b2 hLy r3 o4
      obtain ⟨ad4, rfl, hc40⟩ := r4.at_ (k := q) (u8s_bt L q (by have := HLL.out; omega))
      obtain ⟨ad, rfl, hc0⟩ := hr.at_ (k := q) (u8s_bt l q (by have := HL.out; omega))
      go_wp2_with (go_at_call 14; (with_reducible refine (no_any _ _).mono ?_); rintro e w' ⟨rfl, rfl⟩)
      have hap1 := fun nq => apart_any (some ad4) (some ad) n n c4 cap L l (w3.drewN nq) HLL.out HL.out (r4.drewN nq) (hr.drewN nq) (by omega) n (by omega)
      have hap2 := fun nq => apart_any (some (ad4.add q)) (some (ad.add q)) 1 1 (c4 - q) (cap - q) [bt L q] [bt l q] (w3.drewN nq) rfl rfl (by exact rd_cell hc40) (by exact rd_cell hc0) (by decide) 1 rfl
      rw [HALL.out] at hap1
      rw [show 8 * 1 = 8 from rfl, HONE.out] at hap2
      have hsl1 := fun nq => sl_one ad4 n c4 q (by omega) (w3.drewN nq)
      have hsl2 := fun nq => sl_one ad n cap q (by omega) (w3.drewN nq)
      have hw1 := HW1.out
      have hw2 := HW2.out
      have hw3 := HW3.out
      have hw4 := HW4.out
      have hxr := HXR.out
      have hxa := HXA.out
      have hvb := HVB.out
      clear r4 hr
      go_upto_region 11 with fail
      go_quiet ((go_at_call 21; first | (with_reducible exact Calls.quiet_of (hap1 _)) | (with_reducible exact Calls.quiet_of (hap2 _))))
      go_wp2
      go_ret
      refine ⟨?_, bel_drewN b1 _⟩
      show Ending.returned (Value.bool (Go.bits .and .u8 ((y.toNat : Int) / 2 ^ (2 * (p % 4))) 3 != 0)) = _
      rw [← HE2.out, HXA.out, HVB.out]
  · obtain ⟨rfl, rfl⟩ := read_err l x t er hR her
    have hq := fun wx hr' => Read_is A n cap 0 l [] 0 er wx HL.out hr' (by omega) hR rfl
    clear hR
    go_enter Tryd.func6, Tryd.ntmps6
    go_wp2_with fail
    with_reducible refine hh.mono ?_
    rintro e w1 ⟨rfl, b1⟩
    replace hr := hr.below b1
    clear hh
    go_wp2_with fail
    with_reducible refine (hq _ hr).mono ?_
    rintro e w2 ⟨A3, c3, sp3, rfl, _, _, r3, b2⟩
    replace b1 := b1.trans (b2.mono b1.size)
    clear b2 hq
    go_wp2_with (go_at_call 14; (with_reducible refine (no_any _ _).mono ?_); rintro e w' ⟨rfl, rfl⟩)
    go_ret
    exact ⟨rfl, b1⟩
end Go.Proofs.YthmdfobkdaocaaaDoor
