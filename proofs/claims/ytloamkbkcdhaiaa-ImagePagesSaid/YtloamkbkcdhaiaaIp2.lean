/- Walks of part, bytes.Clone, and of the document's page (layer image). -/
import Derived.Test.YtloamkbkcdhaiaaIp
namespace Go.Proofs.Ytloamkbkcdhaiaa
open Go.RowKit Go.Proofs.Ytloamkbkcdhaiaa.PImageChecks Go.Proofs.YtloamkbkcdhaiaaW.PrintWords
set_option linter.unusedVariables false
set_option linter.unusedSimpArgs false
theorem eqIn_nil (d : Nat) (a : Option Addr) (l c : Nat) (w : World) : (Op.equalIn (d + 1) 24 (.slice a l c) (.slice none 0 0)).run Try.prog w = .ok a.isNone w := by
  cases a <;> simp [Op.equalIn, run_underlying Try.underlying24]
theorem slice_nil (a : Option Addr) (l c : Nat) (w : World) : (binOp .eql 24 (.slice a l c) (.slice none 0 0)).run Try.prog w = .ok (.bool a.isNone) w := by
  have h : (Op.equal 24 (.slice a l c) (.slice none 0 0)).run Try.prog w = .ok a.isNone w := eqIn_nil 9999 a l c w
  simp only [binOp]
  simp [h]
/-- A part of a list, as a slice. -/
theorem sl_pt (ad : Addr) (n c i k : Nat) (x y : Int) (hx : x = i) (hy : y = (i + k : Nat)) (h : i + k ≤ c) (hk : 0 < k) (w : World) : (Instr.slice 24 (.slice (some ad) n c) (some (.int .i64 x)) (some (.int .i64 y)) none).run Try.prog w = .ok (.slice (some (ad.add i)) k (c - i)) w := by
  subst hx hy
  rw [run_slice_lh w _ _ _ _ Try.underlying24 .i64 .i64 (i : Int) ((i + k : Nat) : Int) (by omega) (by omega) (by omega), show (sizeOf (Try.prog.elem 24)).run Try.prog w = .ok 1 w from by kernel_rfl]
  have h1 : ¬ c = i := by omega
  have h2 : ((i : Int) + (k : Int)).toNat - i = k := by omega
  simp [Result.andThen, sliced, h1, h2]
set_option maxHeartbeats 1600000 in
theorem Clone_any (A : Option Addr) (n cap : Nat) (l : List Int) (w : World) (hl : l.length = n) (hr : Rd w A (ints l)) (hm : n ≤ 140737488351232) :
    Calls Try.prog 25 #[.slice A n cap] w fun e w' => ∃ A2 c2, e = .returned (.slice A2 n c2) ∧ n ≤ c2 ∧ (∀ q, (Value.slice A2 n c2).ownBlock = some q → w.heap.size ≤ q) ∧ Rd w' A2 (ints l) ∧ Below w.heap.size w w' := by
  have HL := Lib.hid hl
  clear hl
  rcases A with _ | ad
  · have hl0 : l = [] := by
      cases l with
      | nil => rfl
      | cons b r => obtain ⟨ad, h, _⟩ := hr (by simp [ints]); cases h
    subst hl0
    obtain rfl : n = 0 := HL.out.symm
    have hnil := slice_nil none 0 cap
    simp only [Option.isNone_none] at hnil
    go_enter Try.func25, Try.ntmps25
    go_wp2
    go_ret
    exact ⟨none, 0, rfl, Nat.le_refl _, (fun q hq => by cases hq), Rd.nil _ _, Below.refl _ _⟩
  · have h0 : Own (w.alloc (.cells #[] 5)) 5 1 (.slice (some ⟨w.heap.size, 0, none⟩) 0 0) 0 [] [] := Own.new w 5 1 0 [] rfl (Nat.zero_le _)
    have hnil := slice_nil (some ad) n cap
    simp only [Option.isNone_some] at hnil
    have hr1 : Rd (w.alloc (.cells #[] 5)) (some ad) (ints l) := hr.below ((Below.refl _ _).alloc (Nat.le_refl _) _)
    go_enter Try.func25, Try.ntmps25
    go_wp2_with (at_builtin; refine wpList_app _ rfl (.tmp 5) (.tmp 6) 24 rfl 5 _ 1 1 Try.underlying24 info5 rfl (by decide) rfl h0 rfl (by rw [ints_len, HL.out]; exact (Nat.mul_one _).symm) hr1 (one_ints l) (by unfold maxLen; omega) (by omega) ?_; intro v1 w1 sp1 ho1 hy1)
    simp only [Nat.zero_add, List.nil_append] at ho1
    have b1 : Below w.heap.size w w1 := below_frm ((Below.refl _ w).alloc (Nat.le_refl _) (.cells #[] 5)) (by simp) hy1.frm (by intro k hk; cases hk; exact Nat.le_refl _)
    have f1 := fresh_app (B := w.heap.size) (by simp) (by intro k hk; cases hk; exact Nat.le_refl _) hy1.at_
    obtain ⟨A2, c2, rfl, hc2, hrd⟩ := ho1.rd
    go_wp2
    go_ret
    exact ⟨A2, c2, rfl, hc2, f1, hrd, b1⟩
set_option maxHeartbeats 1600000 in
/-- What part tells. -/
theorem part_any (A : Option Addr) (n c i d j : Nat) (l : List Int) (w : World) (hl : l.length = n) (hr : Rd w A (ints l)) (hm : n ≤ 140737488351232) (hj : j = i + d) (hid : i + d ≤ n) :
    Calls Try.prog 24 #[.slice A n c, .int .i64 (i : Int), .int .i64 (j : Int)] w fun e w' => ∃ A2 c2, e = .returned (.slice A2 d c2) ∧ d ≤ c2 ∧ (∀ q, (Value.slice A2 d c2).ownBlock = some q → w.heap.size ≤ q) ∧ Rd w' A2 (ints (ptI l i d)) ∧ Below w.heap.size w w' := by
  have HL := Lib.hid hl
  have hd : d = j - i := by omega
  have hjn : j ≤ n := by omega
  have hij : i ≤ j := by omega
  subst hd
  clear hl hj hid
  go_enter Try.func24, Try.ntmps24
  go_wp2
  go_loopw [7, 8] (fun v ii wr => ∃ k : Nat, i ≤ k ∧ k ≤ j ∧ ii = .int .i64 (k : Int) ∧ (∃ sp, Own wr 5 1 v (k - i) (ints (ptI l i (k - i))) sp) ∧ (∀ q, v.ownBlock = some q → w.heap.size ≤ q) ∧ Below w.heap.size w wr) (fun _ ii _ => j - (intI ii))
  case atStart => exact ⟨i, by omega, by omega, rfl, ⟨[], .inl ⟨rfl, by omega, by simp [ptI, ints], rfl⟩⟩, (fun q hq => by cases hq), Below.refl _ _⟩
  case round =>
    obtain ⟨k, hki, hk, rfl, ⟨sp, ho⟩, hfr, hbl⟩ := hrel
    by_cases hlt : k < j
    · have hsz := hbl.size
      have hrk := hr.below hbl
      obtain ⟨ad, rfl, hc⟩ := hrk.at_ (k := k) (ints_at l k (by have := HL.out; omega))
      have hpt := ptI_succ l i (k - i) (by have := HL.out; omega)
      rw [show i + (k - i) = k by omega, show k - i + 1 = k + 1 - i by omega] at hpt
      have HPT := Lib.hid hpt
      generalize l.getD k 0 = u at *
      have hkn : k < n := by omega
      have h1 : k - i + 1 ≤ maxLen := by unfold maxLen; omega
      have h2 : (k - i + 1) * 1 ≤ 140737488355328 := by omega
      have he : k - i + 1 = k + 1 - i := by omega
      have HE := Lib.hid he
      generalize k - i = kk at *
      clear hpt hrk he
      go_wp2_with (at_builtin; refine wpList_app _ rfl (.tmp 15) (.tmp 20) 24 rfl 5 _ 1 1 Try.underlying24 info5 rfl (by decide) rfl (ho.alloc _) rfl rfl (rd_one _ _ _) (one_int _ _) h1 h2 ?_; intro v1 w3 sp3 ho3 hy3)
      have f1 := fresh_app (B := w.heap.size) (by simp; omega) hfr hy3.at_
      have b1 : Below w.heap.size w w3 := below_frm (hbl.alloc hsz _) (by simp; omega) hy3.frm (fun q hq => hfr q hq)
      clear ho hy3 hfr hbl
      go_roundw
      case rel => exact ⟨k + 1, by omega, by omega, by go_num, ⟨sp3, by rw [HPT.out, ints_app, ← HE.out]; exact ho3⟩, f1, b1⟩
      case measure => simp [intI]; omega
    · obtain rfl : k = j := by omega
      obtain ⟨A2, c2, rfl, hc2, hrd⟩ := ho.rd
      go_wp2
      go_ret
      exact ⟨A2, c2, rfl, hc2, hfr, hrd, hbl⟩
end Go.Proofs.Ytloamkbkcdhaiaa
