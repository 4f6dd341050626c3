/- Walks of the laws' own tools on rails: same, rest, turn, apart, heads. -/
import Derived.Test.YthmdfobkdaocaaaDoorRy
import Derived.Test.YthmdfobkdaocaaaDoorRd
namespace Go.Proofs.YthmdfobkdaocaaaDoor
open Go.RowKit
set_option linter.unusedVariables false
set_option linter.unusedSimpArgs false
theorem drn_two (w : World) (m n : Nat) : ∃ q, (w.drewN m).drewN n = w.drewN q := ⟨m + n, by simp⟩
set_option maxHeartbeats 1600000 in
theorem same_ne (A0 A1 : Option Addr) (n n1 c0 c1 : Nat) (l l1 : List UInt8) (w : World) (hl : l.length = n) (hl1 : l1.length = n1) (h0 : Rd w A0 (u8s l)) (h1 : Rd w A1 (u8s l1)) (hm : n ≤ 140737488355328) (hne : l ≠ l1) :
    Calls Tryd.prog 15 #[.slice A0 n c0, .slice A1 n1 c1] w fun e w' => e = .returned (.bool false) ∧ ∃ m, w' = w.drewN m := by
  by_cases hnn : n = n1
  · subst hnn
    obtain ⟨p, hp, hpn⟩ : ∃ p, p < n ∧ bt l p ≠ bt l1 p := by
      apply Decidable.byContradiction
      intro h
      apply hne
      refine ext_bt (by omega) (fun i hi => ?_)
      apply Decidable.byContradiction
      intro h2
      exact h ⟨i, by omega, h2⟩
    have HL := Lib.hid hl
    have HL1 := Lib.hid hl1
    have HP := Lib.hid hpn
    clear hl hl1 hne hpn
    go_enter Tryd.func15, Tryd.ntmps15
    go_wp2
    go_loopw [5] (fun i wr => ∃ k m : Nat, k ≤ p ∧ i = .int .i64 k ∧ wr = w.drewN m) (fun i _ => n - (intI i))
    case atStart => exact ⟨0, 0, by omega, rfl, rfl⟩
    case round =>
      obtain ⟨k, m, hk, rfl, rfl⟩ := hrel
      obtain ⟨ad, rfl, hc⟩ := h0.at_ (k := k) (u8s_bt l k (by have := HL.out; omega))
      obtain ⟨ad1, rfl, hc1⟩ := h1.at_ (k := k) (u8s_bt l1 k (by have := HL1.out; omega))
      have hkn : k < n := by omega
      by_cases hbb : bt l k = bt l1 k
      · have hkp : k ≠ p := fun e => HP.out (by rw [← e]; exact hbb)
        rw [hbb] at hc
        clear hbb
        go_wp2
        go_quiet (fail)
        go_wp2
        refine ⟨⟨k + 1, _, by omega, by go_num, rfl⟩, ?_⟩
        simp [intI]
        omega
      · have hbe : (((bt l k).toNat : Int) != ((bt l1 k).toNat : Int)) = true := by
          rw [bne_iff_ne]
          intro h
          exact hbb (UInt8.toNat_inj.1 (by omega))
        have hbe2 : ¬ (((bt l k).toNat : Nat) : Int) = ((bt l1 k).toNat : Nat) := fun h => hbb (UInt8.toNat_inj.1 (by omega))
        clear hbb
        go_wp2
        go_quiet (fail)
        go_wp2
        go_ret
        exact ⟨rfl, drn_two w m _⟩
  · have hnz : ¬ ((n : Nat) : Int) = n1 := by omega
    clear hl hl1
    go_enter Tryd.func15, Tryd.ntmps15
    go_wp2
    go_ret
    exact ⟨rfl, 0, rfl⟩
def restN (x : Int) (k : Nat) : Nat := (x % k).toNat
theorem restN_lt (x : Int) (k : Nat) (hk : 0 < k) : restN x k < k := by
  unfold restN
  have h1 := Int.emod_nonneg x (show (k : Int) ≠ 0 by omega)
  have h2 := Int.emod_lt_of_pos x (show (0 : Int) < k by omega)
  omega
set_option maxHeartbeats 800000 in
theorem rest_any (x : Int) (k : Nat) (h1 : -9223372036854775808 ≤ x) (h2 : x ≤ 9223372036854775807) (hk : 0 < k) (hk2 : k ≤ 1000000) (w : World) :
    Calls Tryd.prog 19 #[.int .i64 x, .int .i64 (k : Int)] w fun e w' => e = .returned (.int .i64 ((restN x k : Nat) : Int)) ∧ w = w' := by
  have hn1 := Int.emod_nonneg x (show (k : Int) ≠ 0 by omega)
  have hn2 := Int.emod_lt_of_pos x (show (0 : Int) < k by omega)
  have hre : ((restN x k : Nat) : Int) = x % k := by unfold restN; omega
  have hkz : ¬ ((k : Nat) : Int) = 0 := by omega
  by_cases h0 : 0 ≤ x
  · go_enter Tryd.func19, Tryd.ntmps19
    go_wp2
    go_ret
    exact ⟨congrArg (fun z => Ending.returned (Value.int .i64 z)) hre.symm, rfl⟩
  · obtain ⟨a, rfl⟩ : ∃ a : Nat, x = -(a : Int) := ⟨(-x).toNat, by omega⟩
    have e1 : 0 < (a : Int) % k → -((a : Int) % k) + k = -(a : Int) % k := fun h => by
      have h3 := Int.emod_lt_of_pos (a : Int) (show (0 : Int) < k by omega)
      rw [← Int.emod_eq_of_lt (show 0 ≤ -((a : Int) % k) + k by omega) (show -((a : Int) % k) + k < k by omega)]
      have h4 := Int.emod_add_mul_ediv (a : Int) k
      have h5 : -((a : Int) % k) + k = -(a : Int) + k * ((a : Int) / k + 1) := by rw [Int.mul_add]; omega
      rw [h5, Int.add_mul_emod_self_left]
    have e2 : (a : Int) % k ≤ 0 → -((a : Int) % k) = -(a : Int) % k := fun h => by
      have h3 := Int.emod_nonneg (a : Int) (show (k : Int) ≠ 0 by omega)
      have h4 : (a : Int) % k = 0 := by omega
      rw [h4, Int.neg_zero, Int.emod_eq_zero_of_dvd (Int.dvd_neg.2 (Int.dvd_of_emod_eq_zero h4))]
    have h3 := Int.emod_lt_of_pos (a : Int) (show (0 : Int) < k by omega)
    have h4 := Int.emod_nonneg (a : Int) (show (k : Int) ≠ 0 by omega)
    have E1 := Lib.hid e1
    have E2 := Lib.hid e2
    have HRE := Lib.hid hre
    clear e1 e2 hre hn1 hn2
    go_enter Tryd.func19, Tryd.ntmps19
    go_wp2
    · go_ret
      refine ⟨?_, rfl⟩
      show Ending.returned (Value.int IntKind.i64 (-((a : Int) % k) + k)) = _
      rw [HRE.out, ← E1.out (by assumption)]
    · go_ret
      refine ⟨?_, rfl⟩
      show Ending.returned (Value.int IntKind.i64 (-((a : Int) % k))) = _
      rw [HRE.out, ← E2.out (by assumption)]
/-- What a turn does to its list. -/
def TurnP (w : World) (A : Option Addr) (m c : Nat) (L : List UInt8) (sp : List Value) (e : Ending) (w' : World) : Prop :=
  e = .returned (.tuple #[]) ∧ Owx w' 5 1 (.slice A m c) m (u8s L) sp ∧ Frm (fun q => (Value.slice A m c).ownBlock = some q) w w'
set_option maxHeartbeats 800000 in
theorem turn_any (A : Option Addr) (m c : Nat) (L : List UInt8) (sp : List Value) (n : Nat) (w : World) (hl : L.length = m) (ho : Owx w 5 1 (.slice A m c) m (u8s L) sp) (hn : n < 8 * m) (hm : m ≤ 1000000) :
    Calls Tryd.prog 20 #[.slice A m c, .int .i64 (n : Int)] w (TurnP w A m c (flipB L n) sp) := by
  obtain ⟨g, rfl, hc, hz, hput⟩ := ho.put (k := n / 8) (by omega)
  have hxb := xor_bit (bt L (n / 8)) (n % 8) (by omega)
  have hnm : n / 8 < m := by omega
  have hbt8 := (bt L (n / 8)).toNat_lt
  have hnew := hput (flipBit (bt L (n / 8)) (n % 8))
  have hfr := (Frm.refl (fun q => (Value.slice (some ⟨g, 0, none⟩) m c).ownBlock = some q) w).setCell (p := ⟨g, n / 8, none⟩) (fun _ => rfl) (.int .u8 ((flipBit (bt L (n / 8)) (n % 8)).toNat : Int))
  clear hput ho
  go_enter Tryd.func20, Tryd.ntmps20
  go_wp2
  exact bodyPost_end (by simp [results, Tryd.results20, go_sem]) rfl ⟨rfl, hnew, hfr⟩
/-- In how many of the first N bits two rows differ. -/
def apB (a b : List UInt8) (N : Nat) : Nat := (bt a (N / 8) ^^^ bt b (N / 8)).toNat / 2 ^ (N % 8) % 2
def apTo (a b : List UInt8) : Nat → Nat
  | 0 => 0
  | N + 1 => apTo a b N + apB a b N
theorem apTo_le (a b : List UInt8) : ∀ N, apTo a b N ≤ N
  | 0 => Nat.le_refl _
  | N + 1 => by have := apTo_le a b N; have h : apB a b N < 2 := Nat.mod_lt _ (by decide); rw [apTo]; omega
theorem u8_and1 (x : UInt8) (k : Nat) : Go.bits .and .u8 ((x.toNat : Int) / 2 ^ k) 1 = ((x.toNat / 2 ^ k % 2 : Nat) : Int) := by
  have hb := x.toNat_lt
  have e1 : (x.toNat : Int) / 2 ^ k = ((x.toNat / 2 ^ k : Nat) : Int) := by simp
  have h2 : x.toNat / 2 ^ k ≤ x.toNat := Nat.div_le_self _ _
  rw [e1, show (1 : Int) = ((1 : Nat) : Int) from rfl, u8_and_nat _ _ (by omega) (by decide), show (1 : Nat) = 2 ^ 1 - 1 from rfl, Nat.and_two_pow_sub_one_eq_mod]
set_option maxRecDepth 100000 in
set_option maxHeartbeats 3200000 in
theorem apart_any (A A1 : Option Addr) (n n1 c c1 : Nat) (a b : List UInt8) (w : World) (hl : a.length = n) (hl1 : b.length = n1) (hr : Rd w A (u8s a)) (hr1 : Rd w A1 (u8s b)) (hm : n ≤ 1000000) (N : Nat) (hN : N = min n n1) :
    Calls Tryd.prog 21 #[.slice A n c, .slice A1 n1 c1] w fun e w' => e = .returned (.int .i64 ((apTo a b (8 * N) : Nat) : Int)) ∧ ∃ m, w' = w.drewN m := by
  have HL := Lib.hid hl
  have HL1 := Lib.hid hl1
  have hNn : N ≤ n := by omega
  have hNn1 : N ≤ n1 := by omega
  have hNx : N = n ∨ N = n1 := by omega
  clear hl hl1 hN
  go_enter Tryd.func21, Tryd.ntmps21
  go_wp2
  go_loopw [5, 6] (fun v i wr => ∃ k m : Nat, k ≤ N ∧ i = .int .i64 k ∧ v = .int .i64 ((apTo a b (8 * k) : Nat) : Int) ∧ wr = w.drewN m) (fun _ i _ => N - (intI i))
  case atStart => exact ⟨0, 0, by omega, rfl, rfl, rfl⟩
  case round =>
    obtain ⟨k, m, hk, rfl, rfl, rfl⟩ := hrel
    by_cases hlt : k < N
    · have hd1 : decide ((k : Int) < (n : Int)) = true := by simp; omega
      have hd2 : decide ((k : Int) < (n1 : Int)) = true := by simp; omega
      have hkn : k < n := by omega
      have hkn1 : k < n1 := by omega
      go_wp2
      clear hd1 hd2
      go_loopw [5, 7] (fun v i wr => ∃ j m : Nat, j ≤ 8 ∧ i = .int .i64 j ∧ v = .int .i64 ((apTo a b (8 * k + j) : Nat) : Int) ∧ wr = w.drewN m) (fun _ i _ => 8 - (intI i))
      case atStart => exact ⟨0, m, by omega, rfl, rfl, rfl⟩
      case round =>
        obtain ⟨j, m, hj, rfl, rfl, rfl⟩ := hrel
        by_cases hlt2 : j < 8
        · obtain ⟨ad, rfl, hc⟩ := hr.at_ (k := k) (u8s_bt a k (by have := HL.out; omega))
          obtain ⟨ad1, rfl, hc1⟩ := hr1.at_ (k := k) (u8s_bt b k (by have := HL1.out; omega))
          obtain ⟨x, hx⟩ : ∃ x, x = bt a k ^^^ bt b k := ⟨_, rfl⟩
          obtain ⟨v, hv⟩ : ∃ v, v = x.toNat / 2 ^ j % 2 := ⟨_, rfl⟩
          have hxr : Go.bits .xor .u8 ((bt a k).toNat : Int) ((bt b k).toNat : Int) = (x.toNat : Int) := by rw [hx]; exact u8_xor_b _ _
          have hxa : Go.bits .and .u8 ((x.toNat : Int) / 2 ^ j) 1 = (v : Int) := by rw [hv]; exact u8_and1 x j
          have hst : apTo a b (8 * k + (j + 1)) = apTo a b (8 * k + j) + v := by
            rw [show 8 * k + (j + 1) = 8 * k + j + 1 from rfl, apTo]
            unfold apB
            rw [show (8 * k + j) / 8 = k by omega, show (8 * k + j) % 8 = j by omega, ← hx, hv]
          have hle := apTo_le a b (8 * k + j)
          have hv2 : v < 2 := by omega
          have hwk : IntKind.u64.wrap (j : Int) = j := by rw [IntKind.wrap_u64]; omega
          have HST := Lib.hid hst
          clear hx hv hst
          by_cases hv1 : v = 1
          · have hve : ((v : Nat) : Int) = 1 := by omega
            rw [hv1] at HST
            clear hv1
            go_wp2
            go_quiet (fail)
            clear hwk
            go_wp2
            go_roundw
            case rel => exact ⟨j + 1, _, by omega, by go_num, by rw [HST.out]; go_num, rfl⟩
            case measure => simp [intI]; omega
          · have hve : ¬ ((v : Nat) : Int) = 1 := by omega
            rw [show v = 0 by omega] at HST
            clear hv1
            go_wp2
            go_quiet (fail)
            clear hwk
            go_wp2
            go_roundw
            case rel => exact ⟨j + 1, _, by omega, by go_num, by rw [HST.out]; rfl, rfl⟩
            case measure => simp [intI]; omega
        · obtain rfl : j = 8 := by omega
          go_wp2
          go_roundw
          case rel => exact ⟨k + 1, m, by omega, by go_num, rfl, rfl⟩
          case measure => simp [intI]; omega
    · obtain rfl : k = N := by omega
      by_cases hkn : k < n
      · have : k = n1 := by omega
        subst this
        go_wp2
        go_ret
        exact ⟨rfl, m, rfl⟩
      · go_wp2
        go_ret
        exact ⟨rfl, m, rfl⟩
end Go.Proofs.YthmdfobkdaocaaaDoor
