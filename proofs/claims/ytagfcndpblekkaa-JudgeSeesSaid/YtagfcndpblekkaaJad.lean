/- Walks of the law's marksKept and traceKept. -/
import Derived.Test.YtagfcndpblekkaaJac
namespace Go.Proofs.Ytagfcndpblekkaa
open Go.RowKit Go.Maps
set_option linter.unusedVariables false
set_option linter.unusedSimpArgs false
theorem bls_app (l m : List Bool) : bls (l ++ m) = bls l ++ bls m := by simp [bls]
theorem app_left {xs ys : List Value} {k : Nat} (h : k < xs.length) : (xs ++ ys)[k]? = xs[k]? := List.getElem?_append_left h
set_option maxRecDepth 100000 in
set_option maxHeartbeats 6400000 in
theorem marksKept_any (A0 A1 : Option Addr) (n c0 c1 : Nat) (l : List Bool) (w : World) (hl : l.length = n) (h0 : Rd w A0 (bls l ++ [.bool true, .bool false, .bool true])) (h1 : Rd w A1 (bls l)) (hc0 : n + 3 ≤ c0) (hcm : c0 ≤ maxLen) (hm : n ≤ 140737488351232) :
    Calls Try.prog 21 #[.slice A0 n c0, .slice A1 n c1] w fun e w' => e = .returned (.bool true) ∧ Below w.heap.size w w' := by
  have hsl : ∀ wx, (Instr.slice 24 (.slice A0 n c0) none (some (.int .i64 ((n : Int) + 3))) none).run Try.prog wx = .ok (.slice A0 (n + 3) c0) wx := fun wx => by
    rw [show ((n : Int) + 3) = ((n + 3 : Nat) : Int) by omega]
    exact sl_toB A0 n c0 (n + 3) hc0 hcm wx
  have HL := Lib.hid hl
  clear hl hcm
  go_enter Try.func21, Try.ntmps21
  go_wp2
  clear hsl
  go_loopw [6] (fun i wr => ∃ k m : Nat, k ≤ n ∧ i = .int .i64 k ∧ wr = w.drewN m) (fun i _ => n - (intJ i))
  case atStart => exact ⟨0, 0, by omega, rfl, rfl⟩
  case round =>
    obtain ⟨k, m, hk, rfl, rfl⟩ := hrel
    have hll := HL.out
    by_cases hlt : k < n
    · obtain ⟨ad, rfl, hc⟩ := h0.at_ (k := k) (by rw [app_left (by rw [bls_len]; omega)]; exact bls_at l k (by omega))
      obtain ⟨ad1, rfl, hc1⟩ := h1.at_ (k := k) (bls_at l k (by omega))
      have hlti : (k : Int) < (n : Int) := by omega
      have hb : k < n + 3 := by omega
      have hbi : (k : Int) < (n : Int) + 3 := by omega
      generalize l.getD k false = x at hc hc1
      clear hll
      go_wp2
      go_quiet (fail)
      go_wp2
      refine ⟨⟨k + 1, _, by omega, by go_num, rfl⟩, ?_⟩
      simp [intJ]
      omega
    · obtain rfl : k = n := by omega
      obtain ⟨ad, rfl, hc⟩ := h0.at_ (k := k) (u := .bool true) (by rw [List.getElem?_append_right (by rw [bls_len]; omega), bls_len, hll, Nat.sub_self]; rfl)
      obtain ⟨_, e, hd⟩ := h0.at_ (k := k + 1) (u := .bool false) (by rw [List.getElem?_append_right (by rw [bls_len]; omega), bls_len, hll, Nat.add_sub_cancel_left]; rfl)
      cases e
      obtain ⟨_, e, he⟩ := h0.at_ (k := k + 2) (u := .bool true) (by rw [List.getElem?_append_right (by rw [bls_len]; omega), bls_len, hll, Nat.add_sub_cancel_left]; rfl)
      cases e
      have q0 : ((k : Int) + 1).toNat = k + 1 := by omega
      have q1 : ((k : Int) + 2).toNat = k + 2 := by omega
      rw [add_pos _ _ (by omega)] at hd he
      clear hll
      go_wp2
      go_ret
      exact ⟨rfl, bel_drewN (Below.refl _ _) _⟩
theorem rd_left {w : World} {A : Option Addr} {xs ys : List Value} (h : Rd w A (xs ++ ys)) : Rd w A xs := fun hne => by
  obtain ⟨ad, e, hc⟩ := h (by simp [hne])
  exact ⟨ad, e, fun j u hu => hc j u (by
    rw [List.getElem?_append_left]
    · exact hu
    · rcases Nat.lt_or_ge j xs.length with h1 | h1
      · exact h1
      · rw [List.getElem?_eq_none h1] at hu; cases hu)⟩
set_option maxRecDepth 100000 in
set_option maxHeartbeats 6400000 in
theorem traceKept_any (A0 A1 : Option Addr) (n c0 c1 : Nat) (l : List Cmd) (w : World) (hl : l.length = n) (h0 : Rd w A0 (cmdV l ++ [.int .i64 71, .int .i64 0, .int .i64 0, .int .i64 0, .int .i64 72, .int .i64 0, .int .i64 0, .int .i64 0])) (h1 : Rd w A1 (cmdV l)) (hc0 : n + 2 ≤ c0) (hcm : c0 ≤ maxLen) (hm : n ≤ 4398046511000) :
    Calls Try.prog 22 #[.slice A0 n c0, .slice A1 n c1] w fun e w' => e = .returned (.bool true) ∧ Below w.heap.size w w' := by
  have hsl : ∀ wx, (Instr.slice 25 (.slice A0 n c0) none (some (.int .i64 ((n : Int) + 2))) none).run Try.prog wx = .ok (.slice A0 (n + 2) c0) wx := fun wx => by
    rw [show ((n : Int) + 2) = ((n + 2 : Nat) : Int) by omega]
    exact sl_toC A0 n c0 (n + 2) hc0 hcm wx
  have HL := Lib.hid hl
  clear hl hcm
  go_enter Try.func22, Try.ntmps22
  go_wp2
  clear hsl
  go_loopw [6] (fun i wr => ∃ k m : Nat, k ≤ n ∧ i = .int .i64 k ∧ wr = w.drewN m) (fun i _ => n - (intJ i))
  case atStart => exact ⟨0, 0, by omega, rfl, rfl⟩
  case round =>
    obtain ⟨k, m, hk, rfl, rfl⟩ := hrel
    have hll := HL.out
    by_cases hlt : k < n
    · obtain ⟨ad, rfl, d0, d1, d2, d3⟩ := rd_cmd (rd_left h0) k (by omega)
      obtain ⟨ad1, rfl, e0, e1, e2, e3⟩ := rd_cmd h1 k (by omega)
      have hlti : (k : Int) < (n : Int) := by omega
      have hb : k < n + 2 := by omega
      have hbi : (k : Int) < (n : Int) + 2 := by omega
      generalize l.getD k ⟨0, 0, 0, 0⟩ = cc at *
      obtain ⟨ck, cb, cp, cs⟩ := cc
      simp only at d0 d1 d2 d3 e0 e1 e2 e3
      clear hll
      go_wp2
      go_quiet (fail)
      go_wp2
      refine ⟨⟨k + 1, _, by omega, by go_num, rfl⟩, ?_⟩
      simp [intJ]
      omega
    · obtain rfl : k = n := by omega
      have hcl : (cmdV l).length = 4 * k := by rw [cmdV_len, hll]
      obtain ⟨ad, rfl, hc⟩ := h0.at_ (k := 4 * k) (u := .int .i64 71) (by rw [List.getElem?_append_right (by omega), hcl, Nat.sub_self]; rfl)
      obtain ⟨_, e, hd⟩ := h0.at_ (k := 4 * k + 4) (u := .int .i64 72) (by rw [List.getElem?_append_right (by omega), hcl, Nat.add_sub_cancel_left]; rfl)
      cases e
      rw [Nat.mul_comm] at hc
      rw [show 4 * k + 4 = (k + 1) * 4 by omega] at hd
      have q0 : ((k : Int) + 1).toNat = k + 1 := by omega
      clear hll hcl
      go_wp2
      go_ret
      exact ⟨rfl, bel_drewN (Below.refl _ _) _⟩
end Go.Proofs.Ytagfcndpblekkaa
